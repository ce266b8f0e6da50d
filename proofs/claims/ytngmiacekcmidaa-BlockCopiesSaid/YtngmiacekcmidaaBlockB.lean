/- Contracts of package block's pools over the model Pl: pages found, blocks found. -/
import Derived.Test.YtngmiacekcmidaaBlock
namespace Go.Proofs.Ytngmiacekcmidaa
open Go.RowKit
set_option maxHeartbeats 400000
set_option maxRecDepth 100000
set_option linter.unusedVariables false

theorem PgAt.drewN {w : World} {b o : Nat} {p : Pg} (h : PgAt w b o p) (n : Nat) : PgAt (w.drewN n) b o p := h

theorem first_of (w : World) (b o : Nat) (p : Pg) (h : PgAt w b o p) (hc : IsC p.cls) (x : Bool) :
    Calls Try.prog 53 #[.pointer (some ⟨b, o, none⟩), .bool x] w fun e w' =>
      e = .returned (.int .i64 (idx (fun k => p.used k == x) (bpt p.cls))) ∧ ∃ n, w' = w.drewN n := by
  refine calls_abs fun R hR => ?_
  have H := Lib.hid h
  have h0 := h.cls
  have hsz := hc.sz
  have hb8 : bpt p.cls ≤ 8 := by omega
  have hb9 : (bpt p.cls : Int) ≤ 8 := by omega
  have hb0 : (0 : Int) ≤ bpt p.cls := by omega
  clear h hsz
  go_enter Try.func53, Try.ntmps53
  go_wp2_with fail
  go_quiet (first | (go_at_call 62; exact quiet_exact (parts_of _ _ hc)) | (go_at_call 71; exact quiet_exact (index_bool _ b (o + 1) (bpt p.cls) _ p.used (by omega) (fun k hk => (H.out.drewN _).used (by omega)) x)))
  go_wp2_with fail
  exact hR.out _ _ ⟨rfl, _, rfl⟩
theorem first_gap (w : World) (b o : Nat) (p : Pg) (h : PgAt w b o p) (hc : IsC p.cls) (hg : p.gap p.cls < bpt p.cls) :
    Calls Try.prog 53 #[.pointer (some ⟨b, o, none⟩), .bool false] w fun e w' => e = .returned (.int .i64 (p.gap p.cls)) ∧ ∃ n, w' = w.drewN n := by
  refine (first_of w b o p h hc false).mono ?_
  rintro e w' ⟨rfl, hn⟩
  refine ⟨?_, hn⟩
  have e1 : fst (fun k => p.used k == false) (bpt p.cls) = p.gap p.cls := fst_congr fun j _ => by cases p.used j <;> rfl
  rw [idx_yes (by rw [e1]; exact hg), e1]
theorem first_top (w : World) (b o : Nat) (p : Pg) (h : PgAt w b o p) (hc : IsC p.cls) (hg : p.top p.cls < bpt p.cls) :
    Calls Try.prog 53 #[.pointer (some ⟨b, o, none⟩), .bool true] w fun e w' => e = .returned (.int .i64 (p.top p.cls)) ∧ ∃ n, w' = w.drewN n := by
  refine (first_of w b o p h hc true).mono ?_
  rintro e w' ⟨rfl, hn⟩
  refine ⟨?_, hn⟩
  have e1 : fst (fun k => p.used k == true) (bpt p.cls) = p.top p.cls := fst_congr fun j _ => by cases p.used j <;> rfl
  rw [idx_yes (by rw [e1]; exact hg), e1]

theorem Pg.at_used (p : Pg) (k : Nat) (hk : k < 8) : p.at (1 + k) = .bool (p.used k) := by rw [Pg.at, if_neg (by omega), if_pos (by omega), Nat.add_sub_cancel_left]
theorem Pg.at_cell (p : Pg) (k : Nat) : p.at (9 + k) = .int .i64 (p.cell k) := by rw [Pg.at, if_neg (by omega), if_neg (by omega), Nat.add_sub_cancel_left]
theorem Pg.at_eq {p q : Pg} {s : Nat} (h0 : s = 0 → p.cls = q.cls) (h1 : 1 ≤ s → s < 9 → p.used (s - 1) = q.used (s - 1)) (h2 : 9 ≤ s → p.cell (s - 9) = q.cell (s - 9)) : p.at s = q.at s := by
  unfold Pg.at
  by_cases e0 : s = 0
  · rw [if_pos e0, if_pos e0, h0 e0]
  · rw [if_neg e0, if_neg e0]
    by_cases e1 : s < 9
    · rw [if_pos e1, if_pos e1, h1 (by omega) e1]
    · rw [if_neg e1, if_neg e1, h2 (by omega)]
theorem PgAt.setUsed {w : World} {b o : Nat} {p : Pg} (h : PgAt w b o p) {k : Nat} (hk : k < 8) (v : Bool) : PgAt (w.setCell ⟨b, o + 1 + k, none⟩ (.bool v)) b o { p with used := up p.used k v } := by
  rw [Nat.add_assoc]
  refine h.set (1 + k) _ _ (by omega) (by rw [Pg.at_used _ _ hk]; show Value.bool (up p.used k v k) = _; rw [up_same]) fun s hs hne => Pg.at_eq (fun _ => rfl) (fun h1 h2 => up_other _ _ (by omega)) (fun _ => rfl)
theorem PgAt.setCls {w : World} {b o : Nat} {p : Pg} (h : PgAt w b o p) (v : Int) : PgAt (w.setCell ⟨b, o, none⟩ (.int .i64 v)) b o { p with cls := v } :=
  h.set 0 _ _ (by omega) rfl fun s hs hne => Pg.at_eq (fun e => absurd e hne) (fun _ _ => rfl) (fun _ => rfl)
theorem PgAt.setCell {w : World} {b o : Nat} {p : Pg} (h : PgAt w b o p) {k : Nat} (hk : k < 16) (v : Int) : PgAt (w.setCell ⟨b, o + 9 + k, none⟩ (.int .i64 v)) b o { p with cell := up p.cell k v } := by
  rw [Nat.add_assoc]
  refine h.set (9 + k) _ _ (by omega) (by rw [Pg.at_cell]; show Value.int .i64 (up p.cell k v k) = _; rw [up_same]) fun s hs hne => Pg.at_eq (fun _ => rfl) (fun _ _ => rfl) (fun _ => up_other _ _ (by omega))

/-- From w to w' only cells o to o+24 of block b have turned. -/
structure PgOnly (b o : Nat) (w w' : World) : Prop where
  only : Only [b] w w'
  row : ∀ T cs, Row w b T cs → ∃ cs', Row w' b T cs'
  cell : ∀ x, x < o ∨ o + 25 ≤ x → w'.cell? ⟨b, x, none⟩ = w.cell? ⟨b, x, none⟩
theorem PgOnly.refl (b o : Nat) (w : World) : PgOnly b o w w := ⟨Only.refl _ _, fun _ cs h => ⟨cs, h⟩, fun _ _ => rfl⟩
theorem PgOnly.set {b o : Nat} {w w' : World} (h : PgOnly b o w w') (r : Nat) (hr : r < 25) (v : Value) : PgOnly b o w (w'.setCell ⟨b, o + r, none⟩ v) :=
  ⟨h.only.set (by simp) _, fun T cs hc => by obtain ⟨cs', h1⟩ := h.row T cs hc; exact ⟨_, h1.set _ _⟩, fun x hx => by
    rw [World.cell?_setCell_other _ _ _ _ (fun h2 => by injection h2 with _ h3 _; omega)]; exact h.cell x hx⟩
theorem PgOnly.setU {b o : Nat} {w w' : World} (h : PgOnly b o w w') {k : Nat} (hr : k < 8) (v : Value) : PgOnly b o w (w'.setCell ⟨b, o + 1 + k, none⟩ v) := by rw [Nat.add_assoc]; exact h.set _ (by omega) v
theorem PgOnly.drewN {b o : Nat} {w w' : World} (h : PgOnly b o w w') (n : Nat) : PgOnly b o w (w'.drewN n) := ⟨h.only.drewN n, h.row, h.cell⟩

theorem release_of (w : World) (b o : Nat) (p : Pg) (h : PgAt w b o p) (hf : ∀ i, w.frozen? ⟨b, i, none⟩ = false) (k : Nat) (hk : k < 8) :
    Calls Try.prog 59 #[.pointer (some ⟨b, o, none⟩), .int .i64 k] w fun e w' => e = .returned (.tuple #[]) ∧ PgAt w' b o (p.release k) ∧ PgOnly b o w w' := by
  refine calls_abs fun R hR => ?_
  have hf0 := hf (o + 1 + k)
  have hf1 := hf o
  have hc0 := h.used hk
  have H1 := Lib.hid (h.setUsed hk false)
  have O1 := Lib.hid ((PgOnly.refl b o w).setU hk (.bool false))
  have hrel : Hid (p.release k = if cnt (up p.used k false) 8 = 0 then { p with used := up p.used k false, cls := -1 } else { p with used := up p.used k false }) := by
    show _ = _
    unfold Pg.release
    split <;> rfl
  clear h hf
  go_enter Try.func59, Try.ntmps59
  go_wp2_with fail
  refine (count_of _ _ _ _ H1.out).mono ?_
  rintro e w1 ⟨rfl, rfl⟩
  have hcls := H1.out.cls
  cases hz : (((Pg.count { p with used := up p.used k false } : Nat) : Int) == 0)
  · have hz' : ¬ cnt (up p.used k false) 8 = 0 := by simpa [Pg.count] using hz
    go_wp2_with fail
    go_end0
    refine hR.out _ _ ⟨rfl, ?_, O1.out⟩
    rw [hrel.out, if_neg hz']
    exact H1.out
  · have hz' : cnt (up p.used k false) 8 = 0 := by simpa [Pg.count] using hz
    have HZ := Lib.hid hz'
    clear hz'
    go_wp2_with fail
    go_end0
    refine hR.out _ _ ⟨rfl, ?_, O1.out.set 0 (by omega) _⟩
    rw [hrel.out, if_pos HZ.out]
    exact H1.out.setCls _
end Go.Proofs.Ytngmiacekcmidaa
