/- Lemmas of this claim. -/
import Derived.Test.YtkacgbigeobncaaGreatTaLkL
namespace Go.Proofs.YtkacgbigeobncaaGreat
open Go.RowKit Go.Maps
set_option maxHeartbeats 6400000
set_option maxRecDepth 100000
set_option linter.unusedVariables false
set_option linter.unusedSimpArgs false
structure Mod.Good (M : Mod) : Prop where
  v : M.valid = true
  base : M.Base
  sup : M.SupOk M.classes.length
  cls : ∀ k, k < M.classes.length → M.classOk k = true
  met : ∀ k, k < M.methods.length → M.methodOk k = true
  ali : ∀ s : Nat, (s : Int) < M.sel → M.alike s = true
  sta : M.areTypes M.statics 10 = true
theorem Mod.areTypes_len {M : Mod} {l : List Ty} {n : Int} (h : M.areTypes l n = true) : (l.length : Int) ≤ n := by
  unfold Mod.areTypes at h
  simp only [Bool.and_eq_true, decide_eq_true_eq] at h
  exact h.1
theorem Mod.Good.lens {M : Mod} (h : M.Good) {k : Nat} (hk : k < M.methods.length) : (M.me k).params.length ≤ 4 ∧ (M.me k).params.length + (M.me k).locals.length + (if 0 ≤ (M.me k).cls then 1 else 0) ≤ 10 ∧ (M.me k).code.length ≤ 120 := by
  have h1 := h.met k hk
  unfold Mod.methodOk at h1
  simp only [Bool.and_eq_true, decide_eq_true_eq] at h1
  obtain ⟨⟨⟨⟨⟨_, h2⟩, h3⟩, _⟩, h4⟩, _⟩ := h1
  have e2 := Mod.areTypes_len h2
  have e3 := Mod.areTypes_len h3
  have e4 := (codeE_valid h4).1
  refine ⟨by omega, ?_, e4⟩
  split at e3 <;> split <;> omega
end Go.Proofs.YtkacgbigeobncaaGreat
namespace Go.Proofs.YtkacgbigeobncaaGreat
open Go.RowKit Go.Maps
set_option maxHeartbeats 6400000
set_option maxRecDepth 100000
set_option linter.unusedVariables false
set_option linter.unusedSimpArgs false
theorem eqTy (a b c d : Int) (wx : World) : (binOp .eql 68 (.agg #[.int .i64 a, .int .i64 b]) (.agg #[.int .i64 c, .int .i64 d])).run Tryz.prog wx = .ok (.bool ((a == c) && (b == d))) wx := by
  rw [run_eql_struct, run_equalIn_struct wx 9999 _ _ _ (by kernel_rfl) (by kernel_rfl)]
  cases h1 : (a == c) <;> cases h2 : (b == d) <;> simp [go_sem, Tryz.underlying68, Tryz.underlying3, part, h1, h2]
end Go.Proofs.YtkacgbigeobncaaGreat
namespace Go.Proofs.YtkacgbigeobncaaGreat
open Go.RowKit Go.Maps
set_option maxHeartbeats 3200000
set_option maxRecDepth 100000
set_option linter.unusedVariables false
set_option linter.unusedSimpArgs false
structure Blk (w : World) (b : Nat) (cs : List Value) : Prop where
  lt : b < w.heap.size
  fr : ∀ i, w.frozen? ⟨b, i, none⟩ = false
  at_ : ∀ i v, cs[i]? = some v → w.cell? ⟨b, i, none⟩ = some v
section
variable {w w' : World} {b T : Nat} {cs : List Value} {F : List Nat}
theorem Row.blk (h : Row w b T cs) : Blk w b cs := ⟨h.lt, fun i => h.free i, fun i v hv => h.cell i hv⟩
theorem Blk.only (h : Blk w b cs) (ho : Only F w w') (hb : b ∉ F) : Blk w' b cs :=
  ⟨Nat.lt_of_lt_of_le h.lt ho.size, fun i => by have := h.fr i; simp only [World.frozen?] at this ⊢; rw [ho.block b h.lt hb]; exact this, fun i v hv => ho.cell (h.at_ i v hv) hb⟩
theorem Blk.only0 (h : Blk w b cs) (ho : Only [] w w') : Blk w' b cs := h.only ho (by simp)
theorem Blk.alloc (h : Blk w b cs) (o : Obj) : Blk (w.alloc o) b cs := h.only0 ((Only.refl _ _).alloc o)
theorem Blk.other (h : Blk w b cs) {a : Addr} (ha : a.block ≠ b) (v : Value) : Blk (w.setCell a v) b cs :=
  h.only (F := [a.block]) ((Only.refl _ _).set (.inl (by simp)) v) (by simpa using Ne.symm ha)
theorem Blk.set (h : Blk w b cs) (i : Nat) (v : Value) : Blk (w.setCell ⟨b, i, none⟩ v) b (cs.set i v) := by
  have hlt := h.lt
  refine ⟨by simpa [World.setCell] using hlt, fun j => ?_, fun j u hu => ?_⟩
  · rw [World.frozen?_setCell]; exact h.fr j
  · by_cases e : i = j
    · subst e
      have hi : i < cs.length := by have := (List.getElem?_eq_some_iff.1 hu).1; simpa using this
      rw [List.getElem?_set_self (by simpa using hi)] at hu
      cases hu
      exact World.cell?_setCell_same' _ _ _ (Option.isSome_iff_exists.2 ⟨_, h.at_ i _ (List.getElem?_eq_getElem hi)⟩)
    · rw [List.getElem?_set_ne e] at hu
      rw [World.cell?_setCell_other _ _ _ _ (fun q => e (by cases q; rfl))]
      exact h.at_ j u hu
theorem Blk.cast {cs' : List Value} (h : Blk w b cs) (e : cs = cs') : Blk w b cs' := e ▸ h
theorem Blk.new (w : World) (T : Nat) (cs : List Value) : Blk (w.alloc (.cells cs.toArray T)) w.heap.size cs := (Row.new w T cs).blk
theorem Blk.ne (h : Blk w b cs) : b ≠ w.heap.size := by have := h.lt; omega
end
section
variable {α : Type} {row : α → List Value} {T z : Nat} {w w' : World} {base : Nat} {v : Value} {l : List α}
theorem Own.made0 (w : World) (h0 : 0 < z) : Own T row z (w.alloc (.cells #[] T)) w.heap.size (.slice (some ⟨w.heap.size, 0, none⟩) 0 0) ([] : List α) :=
  World.ownsRow_made w #[] 0 (Nat.le_refl _) (by simp [maxLen]) (by simp)
theorem Own.blk (hz : RowZ row z) (h0 : 0 < z) (h : Own T row z w base v l) (hl : 0 < l.length) : ∃ g cap, v = .slice (some ⟨g, 0, none⟩) l.length cap ∧ base ≤ g ∧ l.length ≤ cap ∧ cap ≤ 9223372036854775807 ∧ Blk w g (l.flatMap row) := by
  rcases h.form hz with ⟨h1, h2⟩ | ⟨g, cap, h1, h2, h3, h4, h5, h6, h7⟩
  · subst h2; simp at hl
  · refine ⟨g, cap, h1, h2, h4, h5, h3, h6, fun j u hu => ?_⟩
    obtain ⟨i, x, r, hi, hr, rfl, hu2⟩ := flat_inv hz.len h0 hu
    exact h7 i x hi r u hu2
theorem Blk.rd (hz : RowZ row z) {b c : Nat} (h : Blk w b (l.flatMap row)) (hc : l.length ≤ c ∧ c ≤ 9223372036854775807) : Rd row z w (.slice (some ⟨b, 0, none⟩) l.length c) l :=
  .inl ⟨b, 0, c, rfl, hc, fun i x hx r y hy => by
    have hr : r < z := by have := (List.getElem?_eq_some_iff.1 hy).1; rwa [hz.len] at this
    rw [Nat.zero_add]
    exact h.at_ _ _ (by rw [flat_at hz.len l i x hx r hr]; exact hy)⟩
end
theorem tyMth : TyZ 71 70 7 (.agg #[.string ⟨#[]⟩, .int .i64 0, .slice none 0 0, .slice none 0 0, .int .i64 0, .int .i64 0, .slice none 0 0]) 112 := ⟨Tryz.underlying71, by kernel_rfl, rfl, by decide⟩
theorem tyTri : TyZ 78 80 3 (.agg #[.int .i64 0, .int .i64 0, .int .i64 0]) 24 := ⟨Tryz.underlying78, by kernel_rfl, rfl, by decide⟩
theorem clone0Ty (w : World) : Calls Tryz.prog 55 #[.slice none 0 0] w (Exact w (.slice none 0 0)) := by
  have hn := fun (wx : World) => Lib.run_eql_slice_nil (P := Tryz.prog) wx 66 68 none 0 0 0 0 Tryz.underlying66
  refine calls_abs fun R hR => ?_
  go_enter Tryz.func55, Tryz.ntmps55
  go_wp2_with fail
  exact hR.out _ _ ⟨rfl, rfl⟩
theorem clone0Cl (w : World) : Calls Tryz.prog 54 #[.slice none 0 0] w (Exact w (.slice none 0 0)) := by
  have hn := fun (wx : World) => Lib.run_eql_slice_nil (P := Tryz.prog) wx 72 133 none 0 0 0 0 Tryz.underlying72
  refine calls_abs fun R hR => ?_
  go_enter Tryz.func54, Tryz.ntmps54
  go_wp2_with fail
  exact hR.out _ _ ⟨rfl, rfl⟩
theorem clone0Val (w : World) : Calls Tryz.prog 63 #[.slice none 0 0] w (Exact w (.slice none 0 0)) := by
  have hn := fun (wx : World) => Lib.run_eql_slice_nil (P := Tryz.prog) wx 97 106 none 0 0 0 0 Tryz.underlying97
  refine calls_abs fun R hR => ?_
  go_enter Tryz.func63, Tryz.ntmps63
  go_wp2_with fail
  exact hR.out _ _ ⟨rfl, rfl⟩
theorem clone1Ty {α : Type} {row : α → List Value} (hz : RowZ row 2) (w : World) (ad : Addr) (n c : Nat) (l : List α) (hl : n = l.length) (hr : Rd row 2 w (.slice (some ad) n c) l) (hn : n ≤ 1000) :
    Calls Tryz.prog 55 #[.slice (some ad) n c] w fun e w' => ∃ v, e = .returned v ∧ Own 68 row 2 w' w.heap.size v l ∧ Only [] w w' := by
  have hq := fun (wx : World) => Lib.run_eql_slice_nil (P := Tryz.prog) wx 66 68 (some ad) n c 0 0 Tryz.underlying66
  have HL := Lib.hid hl
  have HR := Lib.hid hr
  have HN := Lib.hid hn
  refine calls_abs fun R hR => ?_
  clear hl hr hn
  go_enter Tryz.func55, Tryz.ntmps55
  go_wp2_with (at_builtin; refine append_own tyTy hz rfl _ _ rfl w.heap.size _ [] rfl (Own.made0 w (by decide)) _ l rfl (HR.out.only ((Only.refl _ _).alloc _)) ?c1 ?c2 ?c3 ?c4)
  case c1 => have h1 := HL.out; have h2 := HN.out; simp only [List.length_nil]; omega
  case c2 => have h1 := HL.out; have h2 := HN.out; simp only [List.length_nil]; omega
  case c3 => simp
  case c4 =>
    intro v w1 hv ho hb
    have HV := Lib.hid hv
    have HO := Lib.hid ho
    clear hv ho hb
    go_wp2_with fail
    exact hR.out _ _ ⟨v, rfl, HV.out, ((Only.refl [] w).alloc _).trans HO.out (fun x hx => .inr (by simp [Value.ownBlock] at hx; omega))⟩
theorem clone1Mth {α : Type} {row : α → List Value} (hz : RowZ row 7) (w : World) (ad : Addr) (n c : Nat) (l : List α) (hl : n = l.length) (hr : Rd row 7 w (.slice (some ad) n c) l) (hn : n ≤ 1000) :
    Calls Tryz.prog 56 #[.slice (some ad) n c] w fun e w' => ∃ v, e = .returned v ∧ Own 70 row 7 w' w.heap.size v l ∧ Only [] w w' := by
  have hq := fun (wx : World) => Lib.run_eql_slice_nil (P := Tryz.prog) wx 71 70 (some ad) n c 0 0 Tryz.underlying71
  have HL := Lib.hid hl
  have HR := Lib.hid hr
  have HN := Lib.hid hn
  refine calls_abs fun R hR => ?_
  clear hl hr hn
  go_enter Tryz.func56, Tryz.ntmps56
  go_wp2_with (at_builtin; refine append_own tyMth hz rfl _ _ rfl w.heap.size _ [] rfl (Own.made0 w (by decide)) _ l rfl (HR.out.only ((Only.refl _ _).alloc _)) ?c1 ?c2 ?c3 ?c4)
  case c1 => have h1 := HL.out; have h2 := HN.out; simp only [List.length_nil]; omega
  case c2 => have h1 := HL.out; have h2 := HN.out; simp only [List.length_nil]; omega
  case c3 => simp
  case c4 =>
    intro v w1 hv ho hb
    have HV := Lib.hid hv
    have HO := Lib.hid ho
    clear hv ho hb
    go_wp2_with fail
    exact hR.out _ _ ⟨v, rfl, HV.out, ((Only.refl [] w).alloc _).trans HO.out (fun x hx => .inr (by simp [Value.ownBlock] at hx; omega))⟩
theorem clone1Ins {α : Type} {row : α → List Value} (hz : RowZ row 3) (w : World) (ad : Addr) (n c : Nat) (l : List α) (hl : n = l.length) (hr : Rd row 3 w (.slice (some ad) n c) l) (hn : n ≤ 1000) :
    Calls Tryz.prog 57 #[.slice (some ad) n c] w fun e w' => ∃ v, e = .returned v ∧ Own 64 row 3 w' w.heap.size v l ∧ Only [] w w' := by
  have hq := fun (wx : World) => Lib.run_eql_slice_nil (P := Tryz.prog) wx 65 64 (some ad) n c 0 0 Tryz.underlying65
  have HL := Lib.hid hl
  have HR := Lib.hid hr
  have HN := Lib.hid hn
  refine calls_abs fun R hR => ?_
  clear hl hr hn
  go_enter Tryz.func57, Tryz.ntmps57
  go_wp2_with (at_builtin; refine append_own tyIns hz rfl _ _ rfl w.heap.size _ [] rfl (Own.made0 w (by decide)) _ l rfl (HR.out.only ((Only.refl _ _).alloc _)) ?c1 ?c2 ?c3 ?c4)
  case c1 => have h1 := HL.out; have h2 := HN.out; simp only [List.length_nil]; omega
  case c2 => have h1 := HL.out; have h2 := HN.out; simp only [List.length_nil]; omega
  case c3 => simp
  case c4 =>
    intro v w1 hv ho hb
    have HV := Lib.hid hv
    have HO := Lib.hid ho
    clear hv ho hb
    go_wp2_with fail
    exact hR.out _ _ ⟨v, rfl, HV.out, ((Only.refl [] w).alloc _).trans HO.out (fun x hx => .inr (by simp [Value.ownBlock] at hx; omega))⟩
theorem clone1Tri {α : Type} {row : α → List Value} (hz : RowZ row 3) (w : World) (ad : Addr) (n c : Nat) (l : List α) (hl : n = l.length) (hr : Rd row 3 w (.slice (some ad) n c) l) (hn : n ≤ 1000) :
    Calls Tryz.prog 47 #[.slice (some ad) n c] w fun e w' => ∃ v, e = .returned v ∧ Own 80 row 3 w' w.heap.size v l ∧ Only [] w w' := by
  have hq := fun (wx : World) => Lib.run_eql_slice_nil (P := Tryz.prog) wx 78 80 (some ad) n c 0 0 Tryz.underlying78
  have HL := Lib.hid hl
  have HR := Lib.hid hr
  have HN := Lib.hid hn
  refine calls_abs fun R hR => ?_
  clear hl hr hn
  go_enter Tryz.func47, Tryz.ntmps47
  go_wp2_with (at_builtin; refine append_own tyTri hz rfl _ _ rfl w.heap.size _ [] rfl (Own.made0 w (by decide)) _ l rfl (HR.out.only ((Only.refl _ _).alloc _)) ?c1 ?c2 ?c3 ?c4)
  case c1 => have h1 := HL.out; have h2 := HN.out; simp only [List.length_nil]; omega
  case c2 => have h1 := HL.out; have h2 := HN.out; simp only [List.length_nil]; omega
  case c3 => simp
  case c4 =>
    intro v w1 hv ho hb
    have HV := Lib.hid hv
    have HO := Lib.hid ho
    clear hv ho hb
    go_wp2_with fail
    exact hR.out _ _ ⟨v, rfl, HV.out, ((Only.refl [] w).alloc _).trans HO.out (fun x hx => .inr (by simp [Value.ownBlock] at hx; omega))⟩
end Go.Proofs.YtkacgbigeobncaaGreat
