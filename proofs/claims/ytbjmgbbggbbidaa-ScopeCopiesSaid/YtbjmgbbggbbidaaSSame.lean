/- Contracts of package scope: equal rows of scopes, equal maps of things. -/
import Derived.Test.YtbjmgbbggbbidaaScopeN
import Derived.Test.YtbjmgbbggbbidaaEqInts
import Derived.Laws.StructEq
namespace Go.Proofs.Ytbjmgbbggbbidaa
open Go.RowKit Go.Maps
set_option maxHeartbeats 3200000
set_option maxRecDepth 100000
set_option linter.unusedVariables false

def Sp.row (s : Sp) : List Value := [.int .i64 s.size, .int .i64 s.room, .int .i64 s.users, .int .i64 s.parent, .int .i64 s.portal]
theorem Sp.row_at {s : Sp} {r : Nat} {v : Value} (h : s.row[r]? = some v) : r < 5 ∧ v = .int .i64 (s.fld r) := by
  match r, h with
  | 0, h => simp [row] at h; exact ⟨by omega, h.symm⟩
  | 1, h => simp [row] at h; exact ⟨by omega, h.symm⟩
  | 2, h => simp [row] at h; exact ⟨by omega, h.symm⟩
  | 3, h => simp [row] at h; exact ⟨by omega, h.symm⟩
  | 4, h => simp [row] at h; exact ⟨by omega, h.symm⟩
  | r + 5, h => simp [row] at h
/-- A slice of scopes that is only read. -/
def SpRead (w : World) (v : Value) (l : List Sp) : Prop :=
  (l = [] ∧ v = .slice none 0 0) ∨ ∃ g cap, v = .slice (some ⟨g, 0, none⟩) l.length cap ∧ ∀ j s, l[j]? = some s → ∀ r, r < 5 → w.cell? ⟨g, j * 5 + r, none⟩ = some (.int .i64 (s.fld r))
theorem ScAt.spRead {w : World} {L : Nat → Option Lb} {v : Value} {l : List Sp} (h : ScAt w L v l) : SpRead w v l := by
  rcases h with h | ⟨g, cap, T, cs, h1, h2, h3, h4⟩
  · exact .inl h
  · exact .inr ⟨g, cap, h1, fun j s hs r hr => h2.cell _ (h4 j s hs r hr)⟩
theorem SpRead.len {w : World} {v : Value} {l : List Sp} (h : SpRead w v l) : ∃ a c, v = .slice a l.length c := by
  rcases h with ⟨rfl, rfl⟩ | ⟨g, cap, h1, _⟩
  · exact ⟨none, 0, rfl⟩
  · exact ⟨_, _, h1⟩
def Sp.eqB (s u : Sp) : Bool := (s.size == u.size) && ((s.room == u.room) && ((s.users == u.users) && ((s.parent == u.parent) && (s.portal == u.portal))))
theorem Sp.eqB_iff {s u : Sp} : s.eqB u = true ↔ s = u := by
  unfold eqB
  simp only [Bool.and_eq_true, beq_iff_eq]
  constructor
  · rintro ⟨h1, h2, h3, h4, h5⟩; cases s; cases u; simp_all
  · rintro rfl; simp
theorem neqSp (s u : Sp) (wx : World) : (binOp .neq 72 (.agg s.row.toArray) (.agg u.row.toArray)).run Try.prog wx = .ok (.bool (!s.eqB u)) wx := by
  rw [run_neq_struct, run_equalIn_struct wx 9999 _ _ _ (by kernel_rfl) (by kernel_rfl)]
  unfold Sp.row Sp.eqB
  generalize s.size = a1
  generalize s.room = a2
  generalize s.users = a3
  generalize s.parent = a4
  generalize s.portal = a5
  generalize u.size = b1
  generalize u.room = b2
  generalize u.users = b3
  generalize u.parent = b4
  generalize u.portal = b5
  cases h1 : (a1 == b1) <;> cases h2 : (a2 == b2) <;> cases h3 : (a3 == b3) <;> cases h4 : (a4 == b4) <;> cases h5 : (a5 == b5) <;> simp [go_sem, Try.underlying72, Try.underlying3, part, h1, h2, h3, h4, h5]
theorem load_sp (w : World) (g j : Nat) (s : Sp) (h : ∀ r, r < 5 → w.cell? ⟨g, j * 5 + r, none⟩ = some (.int .i64 (s.fld r))) (n : Nat) : (loadVar 72 ⟨g, j * 5, none⟩).run Try.prog (w.drewN n) = .ok (.agg s.row.toArray) (w.drewN n) :=
  run_loadVar_agg (w.drewN n) g (j * 5) 72 s.row _ Try.underlying72 rfl (by kernel_rfl) (fun r v hv => by
    obtain ⟨h1, rfl⟩ := Sp.row_at hv
    exact h r h1)
theorem equal_scopes (w : World) (v1 v2 : Value) (l1 l2 : List Sp) (h1 : SpRead w v1 l1) (h2 : SpRead w v2 l2) (hl : l1.length ≤ 100) (hl2 : l2.length ≤ 100) :
    Calls Try.prog 56 #[v1, v2] w (fun e w' => ∃ r, e = .returned (.bool r) ∧ (r = true ↔ l1 = l2) ∧ Drew w w') := by
  refine calls_abs fun R hR => ?_
  obtain ⟨a1, c1, rfl⟩ := h1.len
  obtain ⟨a2, c2, rfl⟩ := h2.len
  have H1 := Lib.hid h1
  have H2 := Lib.hid h2
  obtain ⟨n, hn⟩ : ∃ n, n = l1.length := ⟨_, rfl⟩
  obtain ⟨n2, hn2⟩ : ∃ n, n = l2.length := ⟨_, rfl⟩
  rw [← hn] at hl H1
  rw [← hn2] at hl2 H2
  rw [← hn, ← hn2]
  have HN := Lib.hid hn
  have HN2 := Lib.hid hn2
  clear h1 h2 hn hn2
  by_cases hlen : n = n2
  · subst hlen
    go_enter Try.func56, Try.ntmps56
    go_wp2_with fail
    go_loopw [5, 13] (fun _ iv wr => ∃ k : Nat, k ≤ n ∧ iv = .int .i64 k ∧ Hid (∀ j, j < k → l1[j]? = l2[j]?) ∧ Drew w wr) (fun _ iv _ => n - (intOf iv).toNat)
    case atStart => exact ⟨0, by omega, rfl, fun j hj => by omega, Drew.refl _⟩
    case round =>
      obtain ⟨k, hk, rfl, HF, hdr⟩ := hrel
      have HDR := Lib.hid hdr
      by_cases hlt : k < n
      · have hlt1 : k < l1.length := by have := HN.out; omega
        have hlt2 : k < l2.length := by have := HN2.out; omega
        rcases H1.out with ⟨f1, g1⟩ | ⟨b1, d1, f1, g1⟩
        · rw [f1] at hlt1; simp at hlt1
        rcases H2.out with ⟨f2, g2⟩ | ⟨b2, d2, f2, g2⟩
        · rw [f2] at hlt2; simp at hlt2
        have e1 : a1 = some ⟨b1, 0, none⟩ := by cases f1; rfl
        have e2 : a2 = some ⟨b2, 0, none⟩ := by cases f2; rfl
        subst e1 e2
        have k1 := load_sp wr b1 k l1[k] (fun r hr => hdr.cell (g1 k _ (List.getElem?_eq_getElem hlt1) r hr))
        have k2 := load_sp wr b2 k l2[k] (fun r hr => hdr.cell (g2 k _ (List.getElem?_eq_getElem hlt2) r hr))
        have hne := neqSp l1[k] l2[k]
        have hb1 : (0 : Int) ≤ k := by omega
        have hb2 : (k : Int) < n := by omega
        have hz : Hid ((l1[k]).eqB l2[k] = true ↔ l1[k]? = l2[k]?) := by
          show _ ↔ _
          rw [List.getElem?_eq_getElem hlt1, List.getElem?_eq_getElem hlt2, Sp.eqB_iff]; simp
        clear g1 g2 f1 f2 hdr
        generalize (l1[k]).eqB l2[k] = eb at hz hne
        generalize (l1[k]).row.toArray = r1 at k1 hne
        generalize (l2[k]).row.toArray = r2 at k2 hne
        cases eb
        · go_wp2_with fail
          refine wp_region_quiet_lit (by kernel_rfl) (by kernel_rfl) ?_
          repeat (first | (quiet_step (fail)) | (refine wpQuiet_load_agg 72 _ rfl (by rfl) b1 (k * 5) rfl k1 ?_) | (refine wpQuiet_load_agg 72 _ rfl (by rfl) b2 (k * 5) rfl k2 ?_))
          refine wpQuiet_nil ?_
          intro _ hw'
          obtain ⟨nq, hw''⟩ := hw'
          subst hw''
          go_wp2_with fail
          exact hR.out _ _ ⟨false, rfl, ⟨fun h => (by cases h), fun h => by have := hz.out; rw [h] at this; simp at this⟩, HDR.out.more _⟩
        · go_wp2_with fail
          refine wp_region_quiet_lit (by kernel_rfl) (by kernel_rfl) ?_
          repeat (first | (quiet_step (fail)) | (refine wpQuiet_load_agg 72 _ rfl (by rfl) b1 (k * 5) rfl k1 ?_) | (refine wpQuiet_load_agg 72 _ rfl (by rfl) b2 (k * 5) rfl k2 ?_))
          refine wpQuiet_nil ?_
          intro _ hw'
          obtain ⟨nq, hw''⟩ := hw'
          subst hw''
          go_wp2_with fail
          exact ⟨⟨k + 1, by omega, by go_num, fun j hj => by
            by_cases e : j = k
            · rw [e]; first | exact hz.out.1 rfl | exact hz.out.1 trivial
            · exact HF.out j (by omega), HDR.out.more _⟩, by simp [intOf]; omega⟩
      · obtain rfl : k = n := by omega
        clear hdr
        go_wp2_with fail
        refine hR.out _ _ ⟨true, rfl, ⟨fun _ => ?_, fun _ => rfl⟩, HDR.out⟩
        apply List.ext_getElem?
        intro i
        by_cases hi : i < k
        · exact HF.out i hi
        · rw [List.getElem?_eq_none (by have := HN.out; omega), List.getElem?_eq_none (by have := HN2.out; omega)]
  · go_enter Try.func56, Try.ntmps56
    go_wp2_with fail
    exact hR.out _ _ ⟨false, rfl, ⟨fun h => (by cases h), fun h => absurd (by rw [HN.out, HN2.out, h]) hlen⟩, Drew.refl _⟩

/-! ## Equal maps of things -/
theorem equalThing (w : World) (b1 b2 : Nat) (u1 u2 : Th) (v1 v2 : Value) (T1 T2 : TypeId) (h1 : Row w b1 T1 [.int .i64 u1.area, .int .i64 u1.blocks, v1]) (h2 : Row w b2 T2 [.int .i64 u2.area, .int .i64 u2.blocks, v2]) (r1 : Read w v1 u1.refs) (r2 : Read w v2 u2.refs) (l1 : u1.refs.length ≤ 1000) (l2 : u2.refs.length ≤ 1000) :
    Calls Try.prog 58 #[.pointer (some ⟨b1, 0, none⟩), .pointer (some ⟨b2, 0, none⟩)] w (fun e w' => ∃ r, e = .returned (.bool r) ∧ (r = true ↔ u1 = u2) ∧ Drew w w') := by
  refine calls_abs fun R hR => ?_
  have c10 := h1.cell 0 rfl
  have c11 := h1.cell 1 rfl
  have c12 := h1.cell 2 rfl
  have c20 := h2.cell 0 rfl
  have c21 := h2.cell 1 rfl
  have c22 := h2.cell 2 rfl
  have heq : ∀ n, Calls Try.prog 55 #[v1, v2] (w.drewN n) fun e w'' => e = .returned (.bool (decide (u1.refs = u2.refs))) ∧ ∃ m, w'' = w.drewN m := fun n =>
    Calls.quiet_of (equal_lists (w.drewN n) v1 v2 u1.refs u2.refs (r1.only ((Only.refl [] w).drewN n) (by simp)) (r2.only ((Only.refl [] w).drewN n) (by simp)) (by omega) (by omega))
  have hiff : Hid ((u1 = u2) ↔ u1.area = u2.area ∧ u1.blocks = u2.blocks ∧ u1.refs = u2.refs) := by
    show _ ↔ _
    constructor
    · rintro rfl; simp
    · rintro ⟨e1, e2, e3⟩; cases u1; cases u2; simp_all
  rw [hiff.out] at hR
  obtain ⟨va1, vc1, hv1⟩ := r1.len
  obtain ⟨va2, vc2, hv2⟩ := r2.len
  subst hv1 hv2
  clear h1 h2 r1 r2 hiff
  generalize u1.refs.length = n1 at *
  generalize u2.refs.length = n2 at *
  generalize u1.refs = l1 at *
  generalize u2.refs = l2 at *
  by_cases e1 : u1.area = u2.area
  · rw [e1] at c10 hR
    generalize u2.area = x at *
    clear e1
    by_cases e2 : u1.blocks = u2.blocks
    · rw [e2] at c11 hR
      generalize u2.blocks = y at *
      clear e2
      have hdl : Hid (decide (l1 = l2) = true ↔ l1 = l2) := decide_eq_true_iff
      generalize decide (l1 = l2) = eb at heq hdl
      cases eb <;> (
        go_enter Try.func58, Try.ntmps58
        go_wp2_with fail
        go_quiet ((go_at_call 55; with_reducible exact heq _))
        go_wp2_with fail
        exact hR.out _ _ ⟨_, rfl, by have h := hdl.out; simp at h ⊢; exact h, Drew.of _ _⟩)
    · have hd : ((u1.blocks == u2.blocks) = false) := by simpa using e2
      have HNE : Hid (¬ u1.blocks = u2.blocks) := e2
      generalize u1.blocks = y at *
      generalize u2.blocks = y2 at *
      clear e2
      go_enter Try.func58, Try.ntmps58
      go_wp2_with fail
      go_quiet (fail)
      go_wp2_with fail
      exact hR.out _ _ ⟨_, rfl, by simp [HNE.out], Drew.of _ _⟩
  · have hd : ((u1.area == u2.area) = false) := by simpa using e1
    have HNE : Hid (¬ u1.area = u2.area) := e1
    generalize u1.area = x at *
    generalize u2.area = x2 at *
    clear e1
    go_enter Try.func58, Try.ntmps58
    go_wp2_with fail
    go_quiet (fail)
    go_wp2_with fail
    exact hR.out _ _ ⟨_, rfl, by simp [HNE.out], Drew.of _ _⟩
end Go.Proofs.Ytbjmgbbggbbidaa
