/- Contracts of the reference's memories: Do (printed by wip/gen/rscopedo.py). -/
import Derived.Test.YtbjmgbbggbbidaaRScopeM
namespace Go.Proofs.Ytbjmgbbggbbidaa
open Go.RowKit Go.Maps
set_option maxHeartbeats 1600000
set_option maxRecDepth 100000
set_option linter.unusedVariables false
section
variable {w w' : World} {L L' : Nat → Option Rb} {q : Nat} {M : Sc} {X : RX}
theorem rdid_after {w1 : World} {r : Value} {M' : Sc} {e : Ending} {w' : World} (ho : Only [] w w1) (h : RDid w1 L q r M' e w') : RDid w L q r M' e w' := by
  obtain ⟨h1, L', X', h2, h3, h4⟩ := h
  exact ⟨h1, L', X', h2, fun k hk => (h3 k hk).imp id (fun h => by have := ho.size; omega), (ho.toP0 (S := fun k => L k ≠ none)).trans h4 (fun x hx => .inl hx)⟩

theorem rdo_rep (w : World) (hp : RRep w L q M X) (hok : M.Ok) (d a b : Int) : Calls Try.prog 45 #[.pointer (some ⟨q, 0, none⟩), .agg #[.int .i64 d, .int .i64 a, .int .i64 b]] w (RDidN w L q (M.do d a b)) := by
  refine calls_abs fun R hR => ?_
  have ho : Only [] w (w.alloc (.cells #[.int .i64 d, .int .i64 a, .int .i64 b] 53)) := (Only.refl _ w).alloc _
  have h := hp.only0 ho
  have hT := there_rep _ h
  have HO := Lib.hid ho
  clear hp ho

  by_cases h1 : d = 1
  · subst h1
    have hr : Hid (M.do 1 a b = (0, M.enter a b)) := rfl
    have hc := renter_rep _ h hok a b
    generalize M.enter a b = r at *
    obtain ⟨r1, r2⟩ := r
    clear h hok
    go_enter Try.func45, Try.ntmps45
    go_wp2_with fail
    refine hT.mono ?_
    rintro e _ ⟨rfl, rfl⟩
    clear hT
    go_wp2_with fail
    refine hc.mono ?_
    rintro e w1 ⟨rfl, L', X', h2, h3, h4⟩
    have hd : RDid _ L q (.tuple #[.int .i64 0, .int .i64 r1]) r2 (.returned (.tuple #[.int .i64 0, .int .i64 r1])) w1 := ⟨rfl, L', X', h2, h3, h4⟩
    have HD := Lib.hid (rdid_after HO.out hd)
    clear h2 h3 h4 hd hc
    go_wp2_with fail
    refine hR.out _ _ ?_
    unfold RDidN
    rw [hr.out]
    exact HD.out
  by_cases h2 : d = 2
  · subst h2
    clear h1
    cases hb : (b == 0)
    · have hb0 : b ≠ 0 := by simpa using hb
      have hr : Hid (M.do 2 a b = (0, 1, M)) := by show _ = _; unfold Sc.do; simp [hb0]
      have HH := Lib.hid h
      clear hb0 h hok
      go_enter Try.func45, Try.ntmps45
      go_wp2_with fail
      refine hT.mono ?_
      rintro e _ ⟨rfl, rfl⟩
      clear hT
      go_wp2_with fail
      refine hR.out _ _ ?_
      unfold RDidN
      rw [hr.out]
      exact rdid_after HO.out (rdid_none HH.out (Drew.refl _))
    · have hb0 : b = 0 := by simpa using hb
      have hr : Hid (M.do 2 a b = M.leave a) := by show _ = _; unfold Sc.do; simp [hb0]
      clear hb0
      have hc := rleave_rep _ h hok a
      generalize M.leave a = r at *
      obtain ⟨r0, r1, r2⟩ := r
      clear h hok
      go_enter Try.func45, Try.ntmps45
      go_wp2_with fail
      refine hT.mono ?_
      rintro e _ ⟨rfl, rfl⟩
      clear hT
      go_wp2_with fail
      refine hc.mono ?_
      rintro e w1 ⟨rfl, L', X', h2, h3, h4⟩
      have hd : RDid _ L q (.tuple #[.int .i64 r0, .int .i64 r1]) r2 (.returned (.tuple #[.int .i64 r0, .int .i64 r1])) w1 := ⟨rfl, L', X', h2, h3, h4⟩
      have HD := Lib.hid (rdid_after HO.out hd)
      clear h2 h3 h4 hd hc
      go_wp2_with fail
      refine hR.out _ _ ?_
      unfold RDidN
      rw [hr.out]
      exact HD.out
  by_cases h3 : d = 3
  · subst h3
    clear h1 h2
    have hr : Hid (M.do 3 a b = M.alloc a b) := rfl
    have hc := ralloc_rep _ h hok a b
    generalize M.alloc a b = r at *
    obtain ⟨r0, r1, r2⟩ := r
    clear h hok
    go_enter Try.func45, Try.ntmps45
    go_wp2_with fail
    refine hT.mono ?_
    rintro e _ ⟨rfl, rfl⟩
    clear hT
    go_wp2_with fail
    refine hc.mono ?_
    rintro e w1 ⟨rfl, L', X', h2, h3, h4⟩
    have hd : RDid _ L q (.tuple #[.int .i64 r0, .int .i64 r1]) r2 (.returned (.tuple #[.int .i64 r0, .int .i64 r1])) w1 := ⟨rfl, L', X', h2, h3, h4⟩
    have HD := Lib.hid (rdid_after HO.out hd)
    clear h2 h3 h4 hd hc
    go_wp2_with fail
    refine hR.out _ _ ?_
    unfold RDidN
    rw [hr.out]
    exact HD.out
  by_cases h4 : d = 4
  · subst h4
    clear h1 h2 h3
    have hr : Hid (M.do 4 a b = (0, M.refer a b)) := rfl
    have hc := rrefer_rep _ h hok a b
    generalize M.refer a b = r at *
    obtain ⟨r1, r2⟩ := r
    clear h hok
    go_enter Try.func45, Try.ntmps45
    go_wp2_with fail
    refine hT.mono ?_
    rintro e _ ⟨rfl, rfl⟩
    clear hT
    go_wp2_with fail
    refine hc.mono ?_
    rintro e w1 ⟨rfl, L', X', h2, h3, h4⟩
    have hd : RDid _ L q (.tuple #[.int .i64 0, .int .i64 r1]) r2 (.returned (.tuple #[.int .i64 0, .int .i64 r1])) w1 := ⟨rfl, L', X', h2, h3, h4⟩
    have HD := Lib.hid (rdid_after HO.out hd)
    clear h2 h3 h4 hd hc
    go_wp2_with fail
    refine hR.out _ _ ?_
    unfold RDidN
    rw [hr.out]
    exact HD.out
  by_cases h5 : d = 5
  · subst h5
    clear h1 h2 h3 h4
    have hr : Hid (M.do 5 a b = (0, M.setPortal a b)) := rfl
    have hc := rsetPortal_rep _ h hok a b
    generalize M.setPortal a b = r at *
    obtain ⟨r1, r2⟩ := r
    clear h hok
    go_enter Try.func45, Try.ntmps45
    go_wp2_with fail
    refine hT.mono ?_
    rintro e _ ⟨rfl, rfl⟩
    clear hT
    go_wp2_with fail
    refine hc.mono ?_
    rintro e w1 ⟨rfl, L', X', h2, h3, h4⟩
    have hd : RDid _ L q (.tuple #[.int .i64 0, .int .i64 r1]) r2 (.returned (.tuple #[.int .i64 0, .int .i64 r1])) w1 := ⟨rfl, L', X', h2, h3, h4⟩
    have HD := Lib.hid (rdid_after HO.out hd)
    clear h2 h3 h4 hd hc
    go_wp2_with fail
    refine hR.out _ _ ?_
    unfold RDidN
    rw [hr.out]
    exact HD.out
  · have hr : Hid (M.do d a b = (0, 1, M)) := by show _ = _; unfold Sc.do; simp [h1, h2, h3, h4, h5]
    have HH := Lib.hid h
    clear h hok
    have b1 : (d == 1) = false := by simpa using h1
    have b2 : (d == 2) = false := by simpa using h2
    have b3 : (d == 3) = false := by simpa using h3
    have b4 : (d == 4) = false := by simpa using h4
    have b5 : (d == 5) = false := by simpa using h5
    clear h1 h2 h3 h4 h5
    go_enter Try.func45, Try.ntmps45
    go_wp2_with fail
    refine hT.mono ?_
    rintro e _ ⟨rfl, rfl⟩
    clear hT
    go_wp2_with fail
    refine hR.out _ _ ?_
    unfold RDidN
    rw [hr.out]
    exact rdid_after HO.out (rdid_none HH.out (Drew.refl _))

end
end Go.Proofs.Ytbjmgbbggbbidaa
