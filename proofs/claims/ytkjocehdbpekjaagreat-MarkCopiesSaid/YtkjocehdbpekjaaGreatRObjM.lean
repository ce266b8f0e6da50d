/- Contracts of the reference's heap: Drop, Release. -/
import Derived.Test.YtkjocehdbpekjaaGreatRObjL
namespace Go.Proofs.YtkjocehdbpekjaaGreat
open Go.RowKit Go.Maps
set_option maxHeartbeats 6400000
set_option maxRecDepth 100000
set_option linter.unusedVariables false
section
variable {L : Nat → Option Gb} {hb : Nat} {M : Hp} {X : GX}
theorem gdrop_rep (w : World) (h : GRep w L hb M X) (hk : M.Ok) (x : Int) {o : Th} (ho : M.ob x = some o) :
    Calls Tryz.prog 164 #[.pointer (some ⟨hb, 0, none⟩), .int .i64 x] w (fun e w' => e = .returned (.tuple #[]) ∧ ∀ r, GDid w L hb r (M.drop x o) (.returned r) w') := by
  refine calls_abs fun R hR => ?_
  have h2 := h.cells.1
  obtain ⟨i, rfl, hi, x0, x1⟩ := hk.idx ho
  obtain ⟨c0, c1, c2, c3, c4⟩ := h.objSome hi ho
  have lo := hk.layOk ho
  have th := h.th (i : Int) o ho
  obtain ⟨a2, b2, e2⟩ := th.rb.len
  obtain ⟨a3, b3, e3⟩ := th.sl.len
  obtain ⟨bg, b4, e4, hbc⟩ := th.bl.cellsOf lo.b1
  have HLB : Hid (L bg = some (.bl i)) := th.Lb bg (by rw [e4]; rfl)
  rw [e2] at c2
  rw [e3] at c3
  rw [e4] at c4
  obtain ⟨bn, hbn⟩ : ∃ z, z = o.blocks.length := ⟨_, rfl⟩
  rw [← hbn] at c4 hbc
  have HBC := Lib.hid hbc
  have HBN := Lib.hid hbn
  have HB7 : Hid (1 ≤ bn ∧ bn ≤ 7) := by have := lo.b1; have := lo.b7; exact ⟨by omega, by omega⟩
  have H := Lib.hid h
  have HK := Lib.hid hk
  have HOB := Lib.hid ho
  have HIN := Lib.hid hi
  generalize o.kind = kd at *
  generalize o.cls = cl at *
  generalize o.refs.length = rn at *
  generalize o.slots.length = n at *
  obtain ⟨og, hog⟩ : ∃ z, z = X.og := ⟨_, rfl⟩
  rw [← hog] at h2 c0 c1 c2 c3 c4
  have HOG := Lib.hid hog
  have HRow : Hid (Row (w.alloc (.cells #[.int .i64 kd, .int .i64 cl, .slice a2 rn b2, .slice a3 n b3, .slice (some ⟨bg, 0, none⟩) bn b4] 167)) w.heap.size 167 [.int .i64 kd, .int .i64 cl, .slice a2 rn b2, .slice a3 n b3, .slice (some ⟨bg, 0, none⟩) bn b4]) := Row.new w _ [_, _, _, _, _]
  have HO6 : Hid (Only [] w (w.alloc (.cells #[.int .i64 kd, .int .i64 cl, .slice a2 rn b2, .slice a3 n b3, .slice (some ⟨bg, 0, none⟩) bn b4] 167))) := (Only.refl [] w).alloc _
  clear th h hk ho lo e2 e3 e4 hbc hbn hi hog
  go_enter Tryz.func164, Tryz.ntmps164
  go_wp2_with fail
  generalize (w.alloc (.cells #[.int .i64 kd, .int .i64 cl, .slice a2 rn b2, .slice a3 n b3, .slice (some ⟨bg, 0, none⟩) bn b4] 167)) = w6 at *
  obtain ⟨y, hy⟩ : ∃ y, y = w.heap.size := ⟨_, rfl⟩
  rw [← hy] at HRow ⊢
  have HLY : Hid (L y = none) := by
    show _ = _
    cases e : L y with
    | none => rfl
    | some ℓ => have := H.out.lt y (by rw [e]; simp); omega
  clear h2 c0 c1 c2 c3 c4 hy
  have HG6 : Hid (GRep w6 L hb ⟨freeL M.P o.blocks 0, M.ob⟩ X) := H.out.only0 HO6.out
  have N1 : Hid (hb ∉ [X.k, X.c, X.l]) := GRep.notP (P := M.P) (ob := M.ob) H.out H.out.Lm (by simp) (by simp) (by simp) (by simp)
  have NB : Hid (bg ∉ [X.k, X.c, X.l]) := GRep.notP (P := M.P) (ob := M.ob) H.out HLB.out (by simp) (by simp) (by simp) (by simp)
  have NY : Hid (y ∉ [X.k, X.c, X.l]) := by
    have := HLY.out
    show _ ∉ _
    simp
    refine ⟨?_, ?_, ?_⟩ <;> (rintro rfl; first | (rw [H.out.Lk] at this; cases this) | (rw [H.out.Lc] at this; cases this) | (rw [H.out.Ll] at this; cases this))
  go_loopw [5] (fun iv wr => ∃ m : Nat, m ≤ bn ∧ iv = .int .i64 m ∧ GRep wr L hb ⟨freeL M.P o.blocks m, M.ob⟩ X ∧ OnlyP (fun k => PoolL (L k)) w6 wr) (fun iv _ => bn - (intOf iv).toNat)
  case atStart => exact ⟨0, by omega, rfl, HG6.out, OnlyP.refl _ _⟩
  case round =>
    clear HG6
    obtain ⟨m, hm, rfl, hg, ho⟩ := hrel
    have HG := Lib.hid hg
    have HO := Lib.hid ho
    have hyn : ¬ PoolL (L y) := by rw [HLY.out]; rintro (h | h | h | h) <;> cases h
    have hrow := ho.row HRow.out hyn
    have d4 : wr.cell? ⟨y, 4, none⟩ = some (.slice (some ⟨bg, 0, none⟩) bn b4) := hrow.cell 4 rfl
    clear hg ho hyn hrow
    by_cases hlt : m < bn
    · have hlt1 : (m : Int) < (bn : Int) := by omega
      have hm0 : (0 : Int) ≤ (m : Int) := by omega
      have hm7 : (m : Int) ≤ 7 := by have := HB7.out; omega
      have e1 : wr.drew.cell? ⟨hb, 1, none⟩ = some (.pointer (some ⟨X.q, 0, none⟩)) := HG.out.cells.2.1
      have e4 : wr.drew.cell? ⟨y, 4, none⟩ = some (.slice (some ⟨bg, 0, none⟩) bn b4) := d4
      have hbn2 : ¬ PoolL (L bg) := by rw [HLB.out]; rintro (h | h | h | h) <;> cases h
      have eb : wr.drew.cell? ⟨bg, m, none⟩ = some (.int .i64 (gI o.blocks m)) := HO.out.cell (HO6.out.cellN (HBC.out m hlt)) hbn2
      have HPO : Hid ((freeL M.P o.blocks m).ok) := (freeL_keep HK.out.p o.blocks m).1
      have HFR := Lib.hid (rfree_rep wr.drew X.q X.k X.c X.l (freeL M.P o.blocks m) HG.out.drew.pool HPO.out (gI o.blocks m))
      obtain ⟨a0, ha0⟩ : ∃ z, z = gI o.blocks m := ⟨_, rfl⟩
      rw [← ha0] at HFR eb
      have HA0 := Lib.hid ha0
      have n1 := N1.out
      have nb := NB.out
      have ny := NY.out
      clear ha0 hbn2
      go_wp2_with fail
      go_region_held3 (fun w' => w'.cell? ⟨hb, 1, none⟩ = some (.pointer (some ⟨X.q, 0, none⟩)) ∧ w'.cell? ⟨y, 4, none⟩ = some (.slice (some ⟨bg, 0, none⟩) bn b4) ∧ w'.cell? ⟨bg, m, none⟩ = some (.int .i64 a0))
        (first | (exact ⟨e1, e4, eb⟩) | (exact ⟨ho7.cell e1 n1, ho7.cell e4 ny, ho7.cell eb nb⟩))
        (first
          | (go_at_call 184; refine HFR.out.mono ?_; rintro e w7 ⟨rfl, hp7, ho7⟩))
      have HG7 : Hid (GRep w7 L hb ⟨freeL M.P o.blocks (m + 1), M.ob⟩ X) := by
        show GRep _ _ _ _ _
        have := GRep.poolTurn (P := freeL M.P o.blocks m) (ob := M.ob) HG.out.drew ho7 hp7
        rw [HA0.out] at this
        exact this
      have HO7 : Hid (OnlyP (fun k => PoolL (L k)) w6 w7) := HO.out.drew.trans (GRep.only4 (P := freeL M.P o.blocks m) (ob := M.ob) HG.out.drew ho7) (fun x hx => .inl hx)
      clear HFR hp7 ho7 e1 e4 eb n1 nb ny d4
      go_wp2_with fail
      exact ⟨⟨m + 1, by omega, by go_num, HG7.out, HO7.out⟩, by simp [intOf]; omega⟩
    · obtain rfl : m = bn := by omega
      have hlt1 : ¬ (m : Int) < (m : Int) := by omega
      have e0 : wr.cell? ⟨hb, 0, none⟩ = some (.slice (some ⟨og, 0, none⟩) 193 X.oc) := by rw [HOG.out]; exact HG.out.cells.1
      have ef : ∀ j, wr.frozen? ⟨og, j, none⟩ = false := by rw [HOG.out]; exact HG.out.cells.2.2.2
      obtain ⟨q0, q1, q2, q3, q4⟩ := GRep.objSome (M := ⟨freeL M.P o.blocks m, M.ob⟩) HG.out HIN.out HOB.out
      rw [← HOG.out] at q0 q1 q2 q3 q4
      have f0 := ef (i * 5)
      have f1 := ef (i * 5 + 1)
      have f2 := ef (i * 5 + 2)
      have f3 := ef (i * 5 + 3)
      have f4 := ef (i * 5 + 4)
      have HEND : Hid (∀ r, GDid w L hb r (M.drop i o) (.returned r) (wr.setCells X.og (i * 5) [.int .i64 0, .int .i64 0, .slice none 0 0, .slice none 0 0, .slice none 0 0])) := fun r => by
        have hs := GRep.setNone (P := freeL M.P o.blocks m) (ob := M.ob) HG.out HIN.out
        have hoo := GRep.onlyObjs (P := freeL M.P o.blocks m) (ob := M.ob) HG.out [.int .i64 0, .int .i64 0, .slice none 0 0, .slice none 0 0, .slice none 0 0] (i * 5)
        refine ⟨rfl, L, X, ?_, fun k hk => .inl hk, ?_⟩
        · unfold Hp.drop
          rw [← HBN.out]
          exact hs
        · refine ((HO6.out.toP0 (S := fun k => L k ≠ none)).trans (HO.out.mono (fun x hx => .inl (fun e => by rw [e] at hx; rcases hx with h | h | h | h <;> cases h))) (fun x hx => .inl hx)).trans hoo (fun x hx => .inl (by rw [hx]; simp))
      rw [← HOG.out] at HEND
      clear ef
      go_wp2_with fail
      go_end0
      exact hR.out _ _ ⟨rfl, HEND.out⟩
theorem grelease_nil (w : World) (x : Int) : Calls Tryz.prog 96 #[.pointer none, .int .i64 x] w (Exact w (.int .i64 1)) := by
  refine calls_abs fun R hR => ?_
  have h1 := gused_nil w x
  go_enter Tryz.func96, Tryz.ntmps96
  go_wp2_with fail
  refine h1.mono ?_
  rintro e _ ⟨rfl, rfl⟩
  go_wp2_with fail
  exact hR.out _ _ ⟨rfl, rfl⟩
theorem Hp.refersList {M : Hp} {h k : Int} : M.refers h k = (decide (k ≠ h) && decide (h ∈ (M.refs k).1)) := by
  unfold Hp.refers Hp.refs
  cases M.ob k <;> simp
theorem Hp.held_false {M : Hp} {h : Int} (e : ∀ k : Nat, k < 192 → M.refers h ((k : Int) + 1) = false) : M.held h = false := by
  cases hh : M.held h with
  | false => rfl
  | true => obtain ⟨k, hk, h1⟩ := Hp.held_iff.1 hh; rw [e k hk] at h1; cases h1
theorem Hp.refs_len {M : Hp} (hk : M.Ok) (k : Int) : (M.refs k).1.length ≤ 48 := by
  unfold Hp.refs
  cases ho : M.ob k with
  | none => simp
  | some o => have := o.refsN_len o.slots.length; have := (hk.th k o ho).le; simp only [Th.refsL]; omega
theorem grelease_rep (w : World) (h : GRep w L hb M X) (hk : M.Ok) (x : Int) : Calls Tryz.prog 96 #[.pointer (some ⟨hb, 0, none⟩), .int .i64 x] w (GDid w L hb (.int .i64 (M.release x).1) (M.release x).2) := by
  refine calls_abs fun R hR => ?_
  cases ho : M.ob x with
  | none =>
    have hr : M.release x = (3, M) := by unfold Hp.release; rw [ho]
    rw [hr] at hR
    have HD : Hid (GDid w L hb (.int .i64 3) M (.returned (.int .i64 3)) w) := GDid.none0 h (Only.refl _ _)
    have h1 := gused_none w h hk x ho
    clear h hk ho hr
    go_enter Tryz.func96, Tryz.ntmps96
    go_wp2_with fail
    refine h1.mono ?_
    rintro e _ ⟨rfl, rfl⟩
    go_wp2_with fail
    exact hR.out _ _ HD.out
  | some o =>
    have hr : M.release x = if M.held x then (13, M) else (0, M.drop x o) := by unfold Hp.release; rw [ho]
    rw [hr] at hR
    have h1 := gused_some w h hk x ho
    have HX1 : Hid (1 ≤ x ∧ x ≤ 192) := by have := hk.hr x o ho; exact ⟨by omega, by omega⟩
    have H := Lib.hid h
    have HK := Lib.hid hk
    have HOB := Lib.hid ho
    clear h hk ho hr
    go_enter Tryz.func96, Tryz.ntmps96
    go_wp2_with fail
    refine h1.mono ?_
    rintro e _ ⟨rfl, rfl⟩
    clear h1
    go_wp2_with fail
    go_loopw [6] (fun iv wr => ∃ k : Nat, k ≤ 192 ∧ iv = .int .i64 ((k : Int) + 1) ∧ Only [] w wr ∧ Hid (∀ j : Nat, j < k → M.refers x ((j : Int) + 1) = false)) (fun iv _ => 193 - (intOf iv).toNat)
    case atStart => exact ⟨0, by omega, rfl, Only.refl _ _, fun j hj => by omega⟩
    case round =>
      obtain ⟨k, hk, rfl, ho, HF⟩ := hrel
      have HG := Lib.hid (H.out.only0 ho)
      have HO := Lib.hid ho
      have c0 := HG.out.cells.1
      clear ho
      by_cases hlt : k < 192
      · have hlt1 : (k : Int) + 1 < 193 := by omega
        have hk0 : (0 : Int) ≤ (k : Int) + 1 := by omega
        have hrf := grefs_rep wr HG.out HK.out ((k : Int) + 1)
        obtain ⟨z, hz⟩ : ∃ z : Int, z = (k : Int) + 1 := ⟨_, rfl⟩
        have HZ := Lib.hid hz
        have hz1 : z < 193 := by omega
        have hz0 : 0 ≤ z := by omega
        rw [← hz] at hrf ⊢
        clear hz hlt1 hk0
        go_wp2_with fail
        refine hrf.mono ?_
        rintro e w5 ⟨v, rfl, hi, ho5⟩
        obtain ⟨va, vc, rfl⟩ := hi.len
        have hl48 := Hp.refs_len HK.out z
        have hcell : ∀ j, j < (M.refs z).1.length → ∃ g, va = some ⟨g, 0, none⟩ ∧ w5.cell? ⟨g, j, none⟩ = some (.int .i64 (gI (M.refs z).1 j)) := fun j hj => by
          rcases hi.form with ⟨_, e⟩ | ⟨g, cap, e, _, _, _, hc⟩
          · rw [e] at hj; simp at hj
          · cases e; exact ⟨g, rfl, hc j hj⟩
        have HCELL := Lib.hid hcell
        have HO5 : Hid (Only [] w w5) := HO.out.trans ho5 (by simp)
        obtain ⟨e1, he1⟩ : ∃ y, y = (M.refs z).2 := ⟨_, rfl⟩
        rw [← he1]
        obtain ⟨n, hn⟩ : ∃ y, y = (M.refs z).1.length := ⟨_, rfl⟩
        have HN := Lib.hid hn
        rw [← hn] at hl48 ⊢
        clear hrf hi ho5 hcell he1 c0 hn
        go_wp2_with fail
        go_loopw [9] (fun iv wr => ∃ m : Nat, m ≤ n ∧ iv = .int .i64 m ∧ w5 = wr ∧ Hid (∀ j : Nat, j < m → z ≠ x → gI (M.refs z).1 j ≠ x)) (fun iv _ => n - (intOf iv).toNat)
        case atStart => exact ⟨0, by omega, rfl, rfl, fun j hj => by omega⟩
        case round =>
          obtain ⟨m, hm, rfl, rfl, HF2⟩ := hrel
          by_cases hmn : m < n
          · have hmn1 : (m : Int) < n := by omega
            have hm0 : (0 : Int) ≤ m := by omega
            obtain ⟨g, rfl, hcm⟩ := HCELL.out m (by have := HN.out; omega)
            by_cases hzx : z = x
            · have hzx1 : (z != x) = false := by simp [hzx]
              have HZX := Lib.hid hzx
              have HREF : Hid (M.refers x z = false) := by rw [hzx]; exact Hp.refers_self
              clear hzx
              go_wp2_with fail
              refine ⟨⟨k + 1, by omega, by have := HZ.out; go_num, HO5.out, fun j hj => ?_⟩, by have := HZ.out; simp [intOf]; omega⟩
              by_cases e : j = k
              · rw [e, ← HZ.out]; exact HREF.out
              · exact HF.out j (by omega)
            · have hzx1 : (z != x) = true := by simp [hzx]
              obtain ⟨y, hy⟩ : ∃ y, y = gI (M.refs z).1 m := ⟨_, rfl⟩
              rw [← hy] at hcm
              have HY := Lib.hid hy
              by_cases hyx : y = x
              · subst hyx
                have HH : Hid (M.held y = true) := Hp.held_iff.2 ⟨k, hlt, by rw [← HZ.out, Hp.refersList]; simp [hzx]; exact mem_gI.2 ⟨m, by have := HN.out; omega, HY.out.symm⟩⟩
                have HD : Hid (GDid w L hb (.int .i64 13) M (.returned (.int .i64 13)) w5) := GDid.none0 H.out HO5.out
                clear hy hzx
                go_wp2_with fail
                refine hR.out _ _ ?_
                rw [HH.out]
                exact HD.out
              · have HZX := Lib.hid hzx
                clear hy hzx
                go_wp2_with fail
                refine ⟨⟨m + 1, by omega, by go_num, by trivial, fun j hj hne => ?_⟩, by simp [intOf]; omega⟩
                by_cases e : j = m
                · rw [e, ← HY.out]; exact hyx
                · exact HF2.out j (by omega) hne
          · obtain rfl : m = n := by omega
            have hmn1 : ¬ (m : Int) < (m : Int) := by omega
            have HREF : Hid (M.refers x z = false) := by
              show _ = _
              rw [Hp.refersList]
              by_cases e : z = x
              · simp [e]
              · have : ¬ x ∈ (M.refs z).1 := fun hx => by
                  obtain ⟨j, hj, he⟩ := mem_gI.1 hx
                  exact HF2.out j (by rw [HN.out]; exact hj) e he
                simp [this]
            go_wp2_with fail
            refine ⟨⟨k + 1, by omega, by have := HZ.out; go_num, HO5.out, fun j hj => ?_⟩, by have := HZ.out; simp [intOf]; omega⟩
            by_cases e : j = k
            · rw [e, ← HZ.out]; exact HREF.out
            · exact HF.out j (by omega)
      · obtain rfl : k = 192 := by omega
        have hheld : M.held x = false := Hp.held_false HF.out
        rw [hheld] at hR
        have hdr := gdrop_rep wr HG.out HK.out x HOB.out
        clear HF
        go_wp2_with fail
        refine hdr.mono ?_
        rintro e w9 ⟨rfl, hd⟩
        have HD : Hid (GDid w L hb (.int .i64 0) (M.drop x o) (.returned (.int .i64 0)) w9) := by
          obtain ⟨_, L', X', q1, q2, q3⟩ := hd (.int .i64 0)
          exact ⟨rfl, L', X', q1, fun k hk => by rcases q2 k hk with h | h; exact .inl h; exact .inr (Nat.le_trans HO.out.size h), HO.out.toP0.trans q3 (fun x hx => .inl hx)⟩
        clear hd hdr
        go_wp2_with fail
        exact hR.out _ _ HD.out
end
end Go.Proofs.YtkjocehdbpekjaaGreat
