/- Lemmas of this claim. -/
import Derived.Test.YthflghdaejbdkaaRows
import Derived.Test.YthflghdaejbdkaaKLib
import Derived.Test.YthflghdaejbdkaaKBModel
import Derived.IntWalk
namespace Go.Proofs.Ythflghdaejbdkaa
open Go.RowKit
set_option maxHeartbeats 1600000
set_option maxRecDepth 100000
set_option linter.unusedVariables false
structure RRep (w : World) (q k c l : Nat) (P : Pl) : Prop where
  hq : ∃ T c1 c2 c3, Row w q T [.slice (some ⟨k, 0, none⟩) P.n c1, .slice (some ⟨c, 0, none⟩) (P.n * 16) c2, .slice (some ⟨l, 0, none⟩) (P.n * 16) c3]
  rk : ∃ T cs, Row w k T cs
  rc : ∃ T cs, Row w c T cs
  rl : ∃ T cs, Row w l T cs
  kind : ∀ i, i < P.n → w.cell? ⟨k, i, none⟩ = some (.int .i64 (P.pg i).cls)
  cells : ∀ i, i < P.n → ∀ j, j < 16 → w.cell? ⟨c, i * 16 + j, none⟩ = some (.int .i64 ((P.pg i).cell j))
  live : ∀ i, i < P.n → ∀ j, j < 16 → w.cell? ⟨l, i * 16 + j, none⟩ = some (.bool ((P.pg i).live j))
  ne : q ≠ k ∧ q ≠ c ∧ q ≠ l ∧ k ≠ c ∧ k ≠ l ∧ c ≠ l
  n1 : 1 ≤ P.n
  n24 : P.n ≤ 24
theorem RRep.only {w w' : World} {q k c l : Nat} {P : Pl} {F : List Nat} (h : RRep w q k c l P) (o : Only F w w') (h1 : q ∉ F) (h2 : k ∉ F) (h3 : c ∉ F) (h4 : l ∉ F) : RRep w' q k c l P :=
  ⟨by obtain ⟨T, c1, c2, c3, r⟩ := h.hq; exact ⟨T, c1, c2, c3, o.row r h1⟩, h.rk.imp fun _ x => x.imp fun _ y => o.row y h2, h.rc.imp fun _ x => x.imp fun _ y => o.row y h3, h.rl.imp fun _ x => x.imp fun _ y => o.row y h4,
   fun i hi => o.cell (h.kind i hi) h2, fun i hi j hj => o.cell (h.cells i hi j hj) h3, fun i hi j hj => o.cell (h.live i hi j hj) h4, h.ne, h.n1, h.n24⟩
theorem RRep.facts {w : World} {q k c l : Nat} {P : Pl} (h : RRep w q k c l P) : ∃ c1 c2 c3, w.cell? ⟨q, 0, none⟩ = some (.slice (some ⟨k, 0, none⟩) P.n c1) ∧ w.cell? ⟨q, 1, none⟩ = some (.slice (some ⟨c, 0, none⟩) (P.n * 16) c2) ∧ w.cell? ⟨q, 2, none⟩ = some (.slice (some ⟨l, 0, none⟩) (P.n * 16) c3) ∧
    (∀ i, w.frozen? ⟨k, i, none⟩ = false) ∧ (∀ i, w.frozen? ⟨c, i, none⟩ = false) ∧ (∀ i, w.frozen? ⟨l, i, none⟩ = false) ∧ (q < w.heap.size ∧ k < w.heap.size ∧ c < w.heap.size ∧ l < w.heap.size) := by
  obtain ⟨⟨T, c1, c2, c3, hq⟩, ⟨_, _, hk⟩, ⟨_, _, hc⟩, ⟨_, _, hl⟩, _⟩ := h
  exact ⟨c1, c2, c3, hq.cell 0 rfl, hq.cell 1 rfl, hq.cell 2 rfl, hk.free, hc.free, hl.free, hq.lt, hk.lt, hc.lt, hl.lt⟩
theorem set_at {w : World} {b x y : Nat} {v u : Value} (h : w.cell? ⟨b, y, none⟩ = some u) : (w.setCell ⟨b, x, none⟩ v).cell? ⟨b, y, none⟩ = some (if y = x then v else u) := by
  by_cases e : y = x
  · subst e
    rw [if_pos rfl]
    exact World.cell?_setCell_same _ _ _ h
  · rw [if_neg e, World.cell?_setCell_other _ _ _ _ (fun h2 => by injection h2 with _ h3 _; omega)]
    exact h
theorem RRep.setKind {w : World} {q k c l : Nat} {P : Pl} (h : RRep w q k c l P) {i : Nat} (hi : i < P.n) (v : Int) (hl : ∀ j, j < 16 → ({ P.pg i with cls := v } : Pg).live j = (P.pg i).live j) :
    RRep (w.setCell ⟨k, i, none⟩ (.int .i64 v)) q k c l (P.set i { P.pg i with cls := v }) := by
  have o : Only [k] w (w.setCell ⟨k, i, none⟩ (.int .i64 v)) := (Only.refl _ _).set (by simp) _
  obtain ⟨n1, n2, n3, n4, n5, n6⟩ := h.ne
  refine ⟨?_, ?_, h.rc.imp fun _ x => x.imp fun _ y => o.row y (by simpa using n4.symm), h.rl.imp fun _ x => x.imp fun _ y => o.row y (by simpa using n5.symm), fun x hx => ?_, fun x hx j hj => ?_, fun x hx j hj => ?_, h.ne, h.n1, h.n24⟩
  · obtain ⟨T, c1, c2, c3, r⟩ := h.hq; exact ⟨T, c1, c2, c3, o.row r (by simpa using n1)⟩
  · obtain ⟨T, cs, r⟩ := h.rk; exact ⟨T, _, r.set _ _⟩
  · rw [set_at (h.kind x hx)]
    by_cases e : x = i
    · subst e; rw [if_pos rfl, Pl.set_same]
    · rw [if_neg e, Pl.set_other _ _ e]
  · rw [o.cell (h.cells x hx j hj) (by simpa using n4.symm)]
    by_cases e : x = i
    · subst e; rw [Pl.set_same]
    · rw [Pl.set_other _ _ e]
  · rw [o.cell (h.live x hx j hj) (by simpa using n5.symm)]
    by_cases e : x = i
    · subst e; rw [Pl.set_same, hl j hj]
    · rw [Pl.set_other _ _ e]
theorem RRep.setLive {w : World} {q k c l : Nat} {P : Pl} (h : RRep w q k c l P) {i j : Nat} (hi : i < P.n) (hj : j < 16) (v : Bool) (u : Nat → Bool) (hl : ∀ x, x < 16 → ({ P.pg i with used := u } : Pg).live x = if x = j then v else (P.pg i).live x) :
    RRep (w.setCell ⟨l, i * 16 + j, none⟩ (.bool v)) q k c l (P.set i { P.pg i with used := u }) := by
  have o : Only [l] w (w.setCell ⟨l, i * 16 + j, none⟩ (.bool v)) := (Only.refl _ _).set (by simp) _
  obtain ⟨n1, n2, n3, n4, n5, n6⟩ := h.ne
  refine ⟨?_, h.rk.imp fun _ x => x.imp fun _ y => o.row y (by simpa using n5), h.rc.imp fun _ x => x.imp fun _ y => o.row y (by simpa using n6), ?_, fun x hx => ?_, fun x hx y hy => ?_, fun x hx y hy => ?_, h.ne, h.n1, h.n24⟩
  · obtain ⟨T, c1, c2, c3, r⟩ := h.hq; exact ⟨T, c1, c2, c3, o.row r (by simpa using n3)⟩
  · obtain ⟨T, cs, r⟩ := h.rl; exact ⟨T, _, r.set _ _⟩
  · rw [o.cell (h.kind x hx) (by simpa using n5)]
    by_cases e : x = i
    · subst e; rw [Pl.set_same]
    · rw [Pl.set_other _ _ e]
  · rw [o.cell (h.cells x hx y hy) (by simpa using n6)]
    by_cases e : x = i
    · subst e; rw [Pl.set_same]
    · rw [Pl.set_other _ _ e]
  · rw [set_at (h.live x hx y hy)]
    by_cases e : x = i
    · subst e
      rw [Pl.set_same, hl y hy]
      by_cases e2 : y = j
      · rw [if_pos (by omega), if_pos e2]
      · rw [if_neg (by omega), if_neg e2]
    · rw [Pl.set_other _ _ e, if_neg (by omega)]
theorem RRep.setCell {w : World} {q k c l : Nat} {P : Pl} (h : RRep w q k c l P) {i j : Nat} (hi : i < P.n) (hj : j < 16) (v : Int) :
    RRep (w.setCell ⟨c, i * 16 + j, none⟩ (.int .i64 v)) q k c l (P.set i { P.pg i with cell := up (P.pg i).cell j v }) := by
  have o : Only [c] w (w.setCell ⟨c, i * 16 + j, none⟩ (.int .i64 v)) := (Only.refl _ _).set (by simp) _
  obtain ⟨n1, n2, n3, n4, n5, n6⟩ := h.ne
  refine ⟨?_, h.rk.imp fun _ x => x.imp fun _ y => o.row y (by simpa using n4), ?_, h.rl.imp fun _ x => x.imp fun _ y => o.row y (by simpa using n6.symm), fun x hx => ?_, fun x hx y hy => ?_, fun x hx y hy => ?_, h.ne, h.n1, h.n24⟩
  · obtain ⟨T, c1, c2, c3, r⟩ := h.hq; exact ⟨T, c1, c2, c3, o.row r (by simpa using n2)⟩
  · obtain ⟨T, cs, r⟩ := h.rc; exact ⟨T, _, r.set _ _⟩
  · rw [o.cell (h.kind x hx) (by simpa using n4)]
    by_cases e : x = i
    · subst e; rw [Pl.set_same]
    · rw [Pl.set_other _ _ e]
  · rw [set_at (h.cells x hx y hy)]
    by_cases e : x = i
    · subst e
      rw [Pl.set_same]
      show _ = some (Value.int .i64 (up _ _ _ _))
      by_cases e2 : y = j
      · subst e2; rw [if_pos rfl, up_same]
      · rw [if_neg (by omega), up_other _ _ e2]
    · rw [Pl.set_other _ _ e, if_neg (by omega)]
  · rw [o.cell (h.live x hx y hy) (by simpa using n6.symm)]
    by_cases e : x = i
    · subst e; rw [Pl.set_same]; rfl
    · rw [Pl.set_other _ _ e]
theorem Pg.live_free {p : Pg} (h : p.cls = -1) (j : Nat) : p.live j = false := by simp [Pg.live, h]
theorem Pg.live_at {p : Pg} (h : IsC p.cls) (k : Nat) : p.live (k * bsz p.cls) = p.used k := by
  have h1 : p.cls ≠ -1 := by rcases h with e | e | e <;> omega
  simp [Pg.live, h1, (h.mul_div k).1]
theorem Pg.live_up {p : Pg} (h : IsC p.cls) (k : Nat) (v : Bool) (x : Nat) : ({ p with used := up p.used k v } : Pg).live x = if x = k * bsz p.cls then v else p.live x := by
  have h1 : p.cls ≠ -1 := by rcases h with e | e | e <;> omega
  by_cases e : x = k * bsz p.cls
  · subst e
    rw [if_pos rfl]
    have := Pg.live_at (p := { p with used := up p.used k v }) h k
    rw [this]
    exact up_same _ _ _
  · rw [if_neg e]
    unfold Pg.live
    by_cases hm : x % bsz p.cls = 0
    · have : x / bsz p.cls ≠ k := by
        intro h2
        apply e
        rw [← h2]
        have h3 := h.facts
        rcases h3 with ⟨e, _⟩ | ⟨e, _⟩ | ⟨e, _⟩ <;> (rw [e] at hm ⊢; omega)
      show (decide (p.cls ≠ -1) && decide (x % bsz p.cls = 0) && up p.used k v (x / bsz p.cls)) = _
      rw [up_other _ _ this]
    · simp [hm]
def Pg.okw (p : Pg) : Prop := (p.cls = -1 ∧ ∀ k, p.used k = false) ∨ (IsC p.cls ∧ ∀ k, bpt p.cls ≤ k → p.used k = false)
theorem Pg.ok.w {p : Pg} (h : p.ok) : p.okw := by
  rcases h.cls with hc | hc
  · exact .inl ⟨hc, h.free hc⟩
  · exact .inr ⟨hc, h.high (by rcases hc with e | e | e <;> omega)⟩
theorem cut_of (w : World) (c : Int) (h : IsC c) : Calls Try.prog 87 #[.int .i64 c] w (Exact w (.int .i64 (bsz c))) := by
  refine calls_abs fun R hR => ?_
  have hb : Hid (∀ k : Nat, k ≤ 2 → bsz (k : Int) = 2 * 2 ^ k) := fun k _ => rfl
  obtain ⟨C, rfl, hC⟩ : ∃ C : Nat, c = C ∧ C ≤ 2 := ⟨c.toNat, by rcases h with e | e | e <;> omega, by rcases h with e | e | e <;> omega⟩
  go_enter Try.func87, Try.ntmps87
  go_wp2_with fail
  go_loop [3, 4] (fun n i => ∃ k : Nat, k ≤ C ∧ i = .int .i64 k ∧ n = .int .i64 (bsz (k : Int) : Nat)) (fun _ i => C - (intOf i).toNat)
  case atStart => exact ⟨0, by omega, rfl, rfl⟩
  case round =>
    obtain ⟨k, hk, rfl, rfl⟩ := hrel
    by_cases hlt : k < C
    · have hs : Hid (bsz ((k + 1 : Nat) : Int) = 2 * bsz (k : Int)) := by show _ = _; rw [hb.out _ (by omega), hb.out _ (by omega), Nat.pow_succ]; omega
      have h8 : bsz (k : Int) ≤ 8 := by
        have h01 : k = 0 ∨ k = 1 := by omega
        rcases h01 with rfl | rfl <;> decide
      go_wp2_with fail
      go_round
      case rel => exact ⟨k + 1, by omega, by go_num, by rw [hs.out]; go_num⟩
      case measure => simp [intOf]; omega
    · obtain rfl : k = C := by omega
      go_wp2_with fail
      exact hR.out _ _ ⟨rfl, rfl⟩
end Go.Proofs.Ythflghdaejbdkaa
namespace Go.Proofs.Ythflghdaejbdkaa
open Go.RowKit
set_option maxHeartbeats 1600000
set_option maxRecDepth 100000
set_option linter.unusedVariables false
theorem IsC.full {c : Int} (h : IsC c) : bpt c * bsz c = 16 := by rcases h.facts with ⟨h1, h2⟩ | ⟨h1, h2⟩ | ⟨h1, h2⟩ <;> rw [h1, h2]
theorem Pl.set_set (P : Pl) (i : Nat) (x y : Pg) : (P.set i x).set i y = P.set i y := by
  unfold Pl.set
  congr 1
  funext j
  by_cases e : j = i
  · subst e; rw [up_same, up_same]
  · rw [up_other _ _ e, up_other _ _ e]; exact up_other _ _ e
def gapV (P : Pl) (i : Nat) : Int := if (P.pg i).gap (P.pg i).cls < bpt (P.pg i).cls then ((16 * i + (P.pg i).gap (P.pg i).cls * bsz (P.pg i).cls : Nat) : Int) else -1
theorem rgap_of (w : World) (q k c l : Nat) (P : Pl) (h : RRep w q k c l P) (i : Nat) (hi : i < P.n) (hC : IsC (P.pg i).cls) :
    Calls Try.prog 85 #[.pointer (some ⟨q, 0, none⟩), .int .i64 i] w (Exact w (.int .i64 (gapV P i))) := by
  refine calls_abs fun R hR => ?_
  obtain ⟨c1, c2, c3, z0, z1, z2, _⟩ := h.facts
  have h24 := h.n24
  have hkind := h.kind i hi
  obtain ⟨cl, hcl⟩ : ∃ cl, cl = (P.pg i).cls := ⟨_, rfl⟩
  have hgv : Hid (gapV P i = if (P.pg i).gap cl < bpt cl then ((16 * i + (P.pg i).gap cl * bsz cl : Nat) : Int) else -1) := by show _ = _; rw [hcl]; rfl
  have hlv : Hid (∀ m, (P.pg i).live (m * bsz cl) = (P.pg i).used m) := by rw [hcl]; exact Pg.live_at hC
  rw [← hcl] at hC hkind
  have hcut := fun wx => cut_of wx cl hC
  have hblk : ∀ k, k < bpt cl → k * bsz cl + bsz cl ≤ 16 ∧ (k + 1) * bsz cl = k * bsz cl + bsz cl := fun k hk => hC.blk hk
  have hfull := hC.full
  have hsz := hC.sz
  obtain ⟨z, hz⟩ : ∃ z, z = bsz cl := ⟨_, rfl⟩
  obtain ⟨n, hn⟩ : ∃ n, n = bpt cl := ⟨_, rfl⟩
  have HZ := Lib.hid hz
  have HN := Lib.hid hn
  rw [← hz] at hblk hfull hsz hgv hcut hlv
  rw [← hn] at hblk hfull hsz hgv
  have HB := Lib.hid hblk
  have HF := Lib.hid hfull
  have hz2 : 2 ≤ z := by omega
  have hz8 : z ≤ 8 := by omega
  have hn8 : n ≤ 8 := by omega
  have H := Lib.hid h
  clear hz hn hblk hfull hsz h hcl
  go_enter Try.func85, Try.ntmps85
  go_wp2_with fail
  go_loop [5] (fun v => ∃ m s : Nat, m ≤ n ∧ Hid (s = m * z) ∧ v = .int .i64 s ∧ Hid (∀ x, x < m → (P.pg i).used x = true) ∧ s ≤ 16) (fun v => 16 - (intOf v).toNat)
  case atStart => exact ⟨0, 0, by omega, (Nat.zero_mul _).symm, rfl, fun x hx => by omega, by omega⟩
  case round =>
    obtain ⟨m, s, hm, hs, rfl, hu, hs16⟩ := hrel
    by_cases hlt : m < n
    · have hb := HB.out _ hlt
      have hsz16 : s + z ≤ 16 := by rw [hs.out]; exact hb.1
      have hnext : Hid (s + z = (m + 1) * z) := by show _ = _; rw [hb.2, hs.out]
      have hcell := H.out.live i hi s (by omega)
      rw [show (P.pg i).live s = (P.pg i).used m by rw [hs.out]; exact hlv.out m] at hcell
      have hidx : ((i : Int) * 16 + (s : Int)).toNat = i * 16 + s := by omega
      clear hb
      cases hused : (P.pg i).used m with
      | true =>
        rw [hused] at hcell
        have HU := Lib.hid hused
        clear hused
        go_wp2_with fail
        refine (hcut _).mono ?_
        rintro e _ ⟨rfl, rfl⟩
        go_wp2_with fail
        go_round
        case rel => exact ⟨m + 1, s + z, by omega, hnext, by go_num, fun x hx => by
          by_cases e : x = m
          · rw [e]; exact HU.out
          · exact hu.out x (by omega), by omega⟩
        case measure => simp [intOf]; omega
      | false =>
        rw [hused] at hcell
        have hval : Hid (gapV P i = (i : Int) * 16 + (s : Int)) := by
          have e1 : (P.pg i).gap cl = m := by
            unfold Pg.gap
            exact fst_eq (by rw [← HN.out]; exact hlt) (by rw [hused]; rfl) (fun x hx => by rw [hu.out x hx]; rfl)
          show _ = _
          rw [hgv.out, e1, if_pos hlt, ← hs.out]
          omega
        clear hused
        go_wp2_with fail
        exact hR.out _ _ ⟨by rw [hval.out], rfl⟩
    · obtain rfl : m = n := by omega
      have hs' : s = 16 := by rw [hs.out]; exact HF.out
      have hval : Hid (gapV P i = -1) := by
        have e1 : (P.pg i).gap cl = m := by
          rw [HN.out]
          unfold Pg.gap
          exact fst_none (fun x hx => by rw [← HN.out] at hx; rw [hu.out x hx]; rfl)
        show _ = _
        rw [hgv.out, e1, if_neg (by omega)]
      subst hs'
      go_wp2_with fail
      exact hR.out _ _ ⟨by rw [hval.out], rfl⟩
theorem gap_partly {p : Pg} (h : p.ok) (hC : IsC p.cls) : (p.gap p.cls < bpt p.cls) ↔ p.partly p.cls = true := by
  have hne : p.cls ≠ -1 := by rcases hC with e | e | e <;> omega
  constructor
  · intro hg
    refine Pg.partly_iff.2 ⟨rfl, ?_⟩
    rw [h.count hne]
    have h2 := (fst_spec (fun k => !p.used k) (bpt p.cls)).2 hg
    exact cnt_lt_iff.2 ⟨_, hg, by simp only [Bool.not_eq_true'] at h2; exact h2⟩
  · exact fun hp => (h.gap hC hp).1
theorem take_of (w : World) (q k c l : Nat) (P : Pl) (h : RRep w q k c l P) (i : Nat) (hi : i < P.n) (cl : Int) (hC : IsC cl) (hcl : (P.pg i).cls = cl) (x m z : Nat) (hx : x < bpt cl) (hz : z = bsz cl) (hm : m = x * z) (a : Int) (ha : a = ((i * 16 + m : Nat) : Int)) :
    Calls Try.prog 86 #[.pointer (some ⟨q, 0, none⟩), .int .i64 a, .int .i64 z] w fun e w' => e = .returned (.tuple #[]) ∧ RRep w' q k c l (P.set i ((P.pg i).take cl x fun _ => 0)) ∧ Only [c, l] w w' := by
  refine calls_abs fun R hR => ?_
  obtain ⟨A, hA⟩ : ∃ A : Nat, A = i * 16 + m := ⟨_, rfl⟩
  rw [← hA] at ha
  subst ha
  obtain ⟨c1, c2, c3, z0, z1, z2, f0, f1, f2, _⟩ := h.facts
  have h24 := h.n24
  have hsz := hC.sz
  have hb := hC.blk hx
  rw [← hz, ← hm] at hb
  have hm16 : m < 16 := by omega
  have hmz : m + z ≤ 16 := hb.1
  have hz8 : z ≤ 8 := by omega
  have hlv := h.live i hi m hm16
  rw [← hA] at hlv
  have hAn : A < P.n * 16 := by omega
  have h1 := h.setLive hi hm16 true (up (P.pg i).used x true) (fun y hy => by
    rw [show m = x * bsz (P.pg i).cls by rw [hcl, ← hz]; exact hm]
    exact Pg.live_up (by rw [hcl]; exact hC) x true y)
  rw [← hA] at h1
  have o1 : Only [c, l] w (w.setCell ⟨l, A, none⟩ (.bool true)) := (Only.refl _ _).set (by simp) _
  have HST : Hid (RRep (w.setCell ⟨l, A, none⟩ (.bool true)) q k c l (P.set i { cls := cl, used := up (P.pg i).used x true, cell := fun j => if m ≤ j ∧ j < m + 0 then 0 else (P.pg i).cell j })) := by
    have e : ({ P.pg i with used := up (P.pg i).used x true } : Pg) = { cls := cl, used := up (P.pg i).used x true, cell := fun j => if m ≤ j ∧ j < m + 0 then 0 else (P.pg i).cell j } := by
      show (⟨(P.pg i).cls, up (P.pg i).used x true, (P.pg i).cell⟩ : Pg) = _
      rw [hcl]
      congr 1
      funext j
      rw [if_neg (by omega)]
    rw [e] at h1
    exact h1
  have hfin : Hid ((P.pg i).take cl x (fun _ => 0) = { cls := cl, used := up (P.pg i).used x true, cell := fun j => if m ≤ j ∧ j < m + z then 0 else (P.pg i).cell j }) := by
    show _ = _
    unfold Pg.take
    rw [← hz, ← hm]
  have O1 := Lib.hid o1
  have HA := Lib.hid hA
  clear h h1 o1 hb hsz hcl hz hm hA
  go_enter Try.func86, Try.ntmps86
  go_wp2_with fail
  go_loopw [6] (fun v wr => ∃ y : Nat, y ≤ z ∧ v = .int .i64 y ∧ RRep wr q k c l (P.set i { cls := cl, used := up (P.pg i).used x true, cell := fun j => if m ≤ j ∧ j < m + y then 0 else (P.pg i).cell j }) ∧ Only [c, l] w wr) (fun v _ => z - (intOf v).toNat)
  case atStart => exact ⟨0, by omega, rfl, HST.out, O1.out⟩
  case round =>
    clear z0 z1 z2 f0 f1 f2 hlv
    obtain ⟨y, hy, rfl, h2, o2⟩ := hrel
    obtain ⟨d1, d2, d3, z0, z1, z2, f0, f1, f2, _⟩ := h2.facts
    simp only [Pl.set_n] at z0 z1 z2
    by_cases hlt : y < z
    · have hcell := h2.cells i hi (m + y) (by omega)
      have hAy : A + y < P.n * 16 := by have := HA.out; omega
      have h3 := h2.setCell (i := i) (j := m + y) hi (by omega) 0
      rw [Pl.set_same, Pl.set_set] at h3
      have e : up (fun j => if m ≤ j ∧ j < m + y then (0 : Int) else (P.pg i).cell j) (m + y) 0 = fun j => if m ≤ j ∧ j < m + (y + 1) then 0 else (P.pg i).cell j := by
        funext j
        unfold up
        by_cases e1 : j = m + y
        · rw [if_pos e1, if_pos (by omega)]
        · rw [if_neg e1]
          show (if m ≤ j ∧ j < m + y then (0 : Int) else (P.pg i).cell j) = _
          by_cases e2 : m ≤ j ∧ j < m + y
          · rw [if_pos e2, if_pos (by omega)]
          · rw [if_neg e2, if_neg (by omega)]
      have H3 : Hid (RRep (wr.setCell ⟨c, A + y, none⟩ (.int .i64 0)) q k c l (P.set i { cls := cl, used := up (P.pg i).used x true, cell := fun j => if m ≤ j ∧ j < m + (y + 1) then 0 else (P.pg i).cell j })) := by
        rw [HA.out, Nat.add_assoc, ← e]
        exact h3
      have hidx : ((A : Int) + (y : Int)).toNat = A + y := by omega
      rw [← Nat.add_assoc, ← HA.out] at hcell
      have H2 := Lib.hid h2
      clear h2 h3 e
      go_wp2_with fail
      exact ⟨⟨y + 1, by omega, by go_num, H3.out, o2.set (by simp) _⟩, by simp [intOf]; omega⟩
    · obtain rfl : y = z := by omega
      go_wp2_with fail
      go_end0
      refine hR.out _ _ ⟨rfl, ?_, o2⟩
      rw [hfin.out]
      exact h2
end Go.Proofs.Ythflghdaejbdkaa
namespace Go.Proofs.Ythflghdaejbdkaa
open Go.RowKit
set_option maxHeartbeats 3200000
set_option maxRecDepth 100000
set_option linter.unusedVariables false
theorem gapV_no {P : Pl} {i : Nat} (hok : (P.pg i).ok) {c : Int} (hC : IsC c) (he : (P.pg i).cls = c) (hp : (P.pg i).partly c = false) : gapV P i = -1 := by
  unfold gapV
  rw [if_neg]
  rw [gap_partly hok (by rw [he]; exact hC), he, hp]
  simp
theorem gapV_yes {P : Pl} {i : Nat} (hok : (P.pg i).ok) {c : Int} (hC : IsC c) (hp : (P.pg i).partly c = true) : gapV P i = ((16 * i + (P.pg i).gap c * bsz c : Nat) : Int) ∧ (P.pg i).gap c < bpt c := by
  have he := (Pg.partly_iff.1 hp).1
  have hg := (hok.gap hC hp).1
  unfold gapV
  rw [he, if_pos hg]
  exact ⟨rfl, hg⟩
theorem ralloc_part (w : World) (q k c l : Nat) (P : Pl) (h : RRep w q k c l P) (hok : P.ok) (cl : Int) (hC : IsC cl) (i : Nat) (hi : i < P.n) (hp : (P.pg i).partly cl = true) (hb : ∀ j, j < i → (P.pg j).partly cl = false) :
    Calls Try.prog 68 #[.pointer (some ⟨q, 0, none⟩), .int .i64 cl] w fun e w' =>
      e = .returned (.tuple #[.int .i64 ((16 * i + (P.pg i).gap cl * bsz cl : Nat) : Int), .int .i64 0]) ∧ RRep w' q k c l (P.set i ((P.pg i).take cl ((P.pg i).gap cl) fun _ => 0)) ∧ Only [k, c, l] w w' := by
  refine calls_abs fun R hR => ?_
  have hlo : decide (cl < 0) = false := by simp; rcases hC with e | e | e <;> omega
  have hhi : decide (2 < cl) = false := by simp; rcases hC with e | e | e <;> omega
  have hcm : (cl == -1) = false := by rw [beq_eq_false_iff_ne]; rcases hC with e | e | e <;> omega
  obtain ⟨c1, c2, c3, z0, z1, z2, _⟩ := h.facts
  have h24 := h.n24
  have H := Lib.hid h
  have HOK := Lib.hid hok
  have hcut := fun wx => cut_of wx cl hC
  have HBB := Lib.hid hb
  have HPP := Lib.hid hp
  clear h hok hb hp
  go_enter Try.func68, Try.ntmps68
  go_wp2_with fail
  go_loop [6] (fun v => ∃ j : Nat, j ≤ i ∧ v = .int .i64 j) (fun v => i - (intOf v).toNat)
  case atStart => exact ⟨0, by omega, rfl⟩
  case round =>
    obtain ⟨j, hj, rfl⟩ := hrel
    by_cases hlt : j < i
    · have hjn : j < P.n := by omega
      have hkind := H.out.kind j hjn
      have hnp := HBB.out j hlt
      cases hE : ((P.pg j).cls == cl)
      · clear hnp
        go_wp2_with fail
        go_round
        case rel => exact ⟨j + 1, by omega, by go_num⟩
        case measure => simp [intOf]; omega
      · have hE' : (P.pg j).cls = cl := by simpa using hE
        have hgap := rgap_of w q k c l P H.out j hjn (by rw [hE']; exact hC)
        rw [gapV_no (HOK.out j hjn) hC hE' hnp] at hgap
        clear hnp hE'
        go_wp2_with fail
        refine hgap.mono ?_
        rintro e _ ⟨rfl, rfl⟩
        go_wp2_with fail
        go_round
        case rel => exact ⟨j + 1, by omega, by go_num⟩
        case measure => simp [intOf]; omega
    · obtain rfl : j = i := by omega
      have hkind := H.out.kind j hi
      have hE' := (Pg.partly_iff.1 HPP.out).1
      have hE : ((P.pg j).cls == cl) = true := by simpa using hE'
      have hgap := rgap_of w q k c l P H.out j hi (by rw [hE']; exact hC)
      obtain ⟨g1, g2⟩ := gapV_yes (HOK.out j hi) hC HPP.out
      have hval : Hid (((16 * j + (P.pg j).gap cl * bsz cl : Nat) : Int) = gapV P j) := g1.symm
      have hge : 0 ≤ gapV P j := by rw [g1]; omega
      have htk := take_of w q k c l P H.out j hi cl hC hE' ((P.pg j).gap cl) _ _ g2 rfl rfl (gapV P j) (by rw [g1]; omega)
      rw [hval.out] at hR
      clear hE' g1 g2 hlt
      go_wp2_with fail
      refine hgap.mono ?_
      rintro e _ ⟨rfl, rfl⟩
      go_wp2_with fail
      refine hgap.mono ?_
      rintro e _ ⟨rfl, rfl⟩
      go_wp2_with fail
      refine (hcut _).mono ?_
      rintro e _ ⟨rfl, rfl⟩
      go_wp2_with fail
      refine htk.mono ?_
      rintro e w2 ⟨rfl, h2, o2⟩
      go_wp2_with fail
      exact hR.out _ _ ⟨rfl, h2, o2.mono (by simp)⟩
theorem ralloc_new (w : World) (q k c l : Nat) (P : Pl) (h : RRep w q k c l P) (hok : P.ok) (cl : Int) (hC : IsC cl) (hn : ∀ j, j < P.n → (P.pg j).partly cl = false) (i : Nat) (hi : i < P.n) (hp : (P.pg i).cls < 0) (hb : ∀ j, j < i → ¬ (P.pg j).cls < 0) :
    Calls Try.prog 68 #[.pointer (some ⟨q, 0, none⟩), .int .i64 cl] w fun e w' =>
      e = .returned (.tuple #[.int .i64 ((16 * i : Nat) : Int), .int .i64 0]) ∧ RRep w' q k c l (P.set i ((P.pg i).take cl 0 fun _ => 0)) ∧ Only [k, c, l] w w' := by
  refine calls_abs fun R hR => ?_
  have hlo : decide (cl < 0) = false := by simp; rcases hC with e | e | e <;> omega
  have hhi : decide (2 < cl) = false := by simp; rcases hC with e | e | e <;> omega
  have hcm : (cl == -1) = false := by rw [beq_eq_false_iff_ne]; rcases hC with e | e | e <;> omega
  obtain ⟨c1, c2, c3, z0, z1, z2, _⟩ := h.facts
  have h24 := h.n24
  have H := Lib.hid h
  have HOK := Lib.hid hok
  have hcut := fun wx => cut_of wx cl hC
  have HBB := Lib.hid hb
  have HNN := Lib.hid hn
  have hfree : (P.pg i).cls = -1 := ((hok i hi).neg).1 hp
  clear h hok hb hn hp
  go_enter Try.func68, Try.ntmps68
  go_wp2_with fail
  go_loop [6] (fun v => ∃ j : Nat, j ≤ P.n ∧ v = .int .i64 j) (fun v => P.n - (intOf v).toNat)
  case atStart => exact ⟨0, by omega, rfl⟩
  case round =>
    obtain ⟨j, hj, rfl⟩ := hrel
    by_cases hlt : j < P.n
    · have hjn : j < P.n := by omega
      have hkind := H.out.kind j hjn
      have hnp := HNN.out j hlt
      cases hE : ((P.pg j).cls == cl)
      · clear hnp
        go_wp2_with fail
        go_round
        case rel => exact ⟨j + 1, by omega, by go_num⟩
        case measure => simp [intOf]; omega
      · have hE' : (P.pg j).cls = cl := by simpa using hE
        have hgap := rgap_of w q k c l P H.out j hjn (by rw [hE']; exact hC)
        rw [gapV_no (HOK.out j hjn) hC hE' hnp] at hgap
        clear hnp hE'
        go_wp2_with fail
        refine hgap.mono ?_
        rintro e _ ⟨rfl, rfl⟩
        go_wp2_with fail
        go_round
        case rel => exact ⟨j + 1, by omega, by go_num⟩
        case measure => simp [intOf]; omega
    · have hj9 : j = P.n := by omega
      subst hj9
      go_wp2_with fail
      go_loop [8] (fun v => ∃ j : Nat, j ≤ i ∧ v = .int .i64 j) (fun v => i - (intOf v).toNat)
      case atStart => exact ⟨0, by omega, rfl⟩
      case round =>
        clear hlt
        obtain ⟨j, hj, rfl⟩ := hrel
        by_cases hlt : j < i
        · have hjn : j < P.n := by omega
          have hkind := H.out.kind j hjn
          have hnf := HBB.out j hlt
          have hE : ((P.pg j).cls == -1) = false := by rw [beq_eq_false_iff_ne]; omega
          clear hnf
          go_wp2_with fail
          go_round
          case rel => exact ⟨j + 1, by omega, by go_num⟩
          case measure => simp [intOf]; omega
        · obtain rfl : j = i := by omega
          clear hlt
          have hkind := H.out.kind j hi
          have hE : ((P.pg j).cls == -1) = true := by rw [hfree]; rfl
          have hne := H.out.ne
          obtain ⟨n1, n2, n3, n4, n5, n6⟩ := hne
          have hfr := H.out.facts.choose_spec.choose_spec.choose_spec.2.2.2.1
          have h2 := H.out.setKind hi cl (fun x hx => by
            rw [Pg.live_free hfree]
            simp [Pg.live, (HOK.out j hi).free hfree])
          have htk := fun a ha => take_of _ q k c l _ h2 j hi cl hC (by rw [Pl.set_same]) 0 0 (bsz cl) (by have := hC.sz; omega) rfl (by omega) a ha
          rw [Pl.set_same, Pl.set_set] at htk
          have e1 : ({ P.pg j with cls := cl } : Pg).take cl 0 (fun _ => 0) = (P.pg j).take cl 0 fun _ => 0 := rfl
          rw [e1] at htk
          have HTK := Lib.hid htk
          have hwr : IntKind.i64.wrap ((j : Int) * 16) = (j : Int) * 16 := IntWalk.i64_in _ (by omega)
          have hval : Hid (((16 * j : Nat) : Int) = (j : Int) * 16) := by show _ = _; omega
          rw [hval.out] at hR
          clear h2 htk e1
          go_wp2_with fail
          refine (hcut _).mono ?_
          rintro e _ ⟨rfl, rfl⟩
          go_wp2_with fail
          refine (HTK.out _ (by omega)).mono ?_
          rintro e w2 ⟨rfl, h2, o2⟩
          go_wp2_with fail
          exact hR.out _ _ ⟨rfl, h2, ((Only.refl [k, c, l] w).set (by simp) _).trans o2 (by simp)⟩
theorem ralloc_full (w : World) (q k c l : Nat) (P : Pl) (h : RRep w q k c l P) (hok : P.ok) (cl : Int) (hC : IsC cl) (hn : ∀ j, j < P.n → (P.pg j).partly cl = false) (hp : ∀ j, j < P.n → ¬ (P.pg j).cls < 0) :
    Calls Try.prog 68 #[.pointer (some ⟨q, 0, none⟩), .int .i64 cl] w fun e w' => e = .returned (.tuple #[.int .i64 0, .int .i64 14]) ∧ w = w' := by
  refine calls_abs fun R hR => ?_
  have hlo : decide (cl < 0) = false := by simp; rcases hC with e | e | e <;> omega
  have hhi : decide (2 < cl) = false := by simp; rcases hC with e | e | e <;> omega
  have hcm : (cl == -1) = false := by rw [beq_eq_false_iff_ne]; rcases hC with e | e | e <;> omega
  obtain ⟨c1, c2, c3, z0, z1, z2, _⟩ := h.facts
  have h24 := h.n24
  have H := Lib.hid h
  have HOK := Lib.hid hok
  have hcut := fun wx => cut_of wx cl hC
  have HBB := Lib.hid hp
  have HNN := Lib.hid hn
  clear h hok hn hp
  go_enter Try.func68, Try.ntmps68
  go_wp2_with fail
  go_loop [6] (fun v => ∃ j : Nat, j ≤ P.n ∧ v = .int .i64 j) (fun v => P.n - (intOf v).toNat)
  case atStart => exact ⟨0, by omega, rfl⟩
  case round =>
    obtain ⟨j, hj, rfl⟩ := hrel
    by_cases hlt : j < P.n
    · have hjn : j < P.n := by omega
      have hkind := H.out.kind j hjn
      have hnp := HNN.out j hlt
      cases hE : ((P.pg j).cls == cl)
      · clear hnp
        go_wp2_with fail
        go_round
        case rel => exact ⟨j + 1, by omega, by go_num⟩
        case measure => simp [intOf]; omega
      · have hE' : (P.pg j).cls = cl := by simpa using hE
        have hgap := rgap_of w q k c l P H.out j hjn (by rw [hE']; exact hC)
        rw [gapV_no (HOK.out j hjn) hC hE' hnp] at hgap
        clear hnp hE'
        go_wp2_with fail
        refine hgap.mono ?_
        rintro e _ ⟨rfl, rfl⟩
        go_wp2_with fail
        go_round
        case rel => exact ⟨j + 1, by omega, by go_num⟩
        case measure => simp [intOf]; omega
    · have hj9 : j = P.n := by omega
      subst hj9
      go_wp2_with fail
      go_loop [8] (fun v => ∃ j : Nat, j ≤ P.n ∧ v = .int .i64 j) (fun v => P.n - (intOf v).toNat)
      case atStart => exact ⟨0, by omega, rfl⟩
      case round =>
        clear hlt
        obtain ⟨j, hj, rfl⟩ := hrel
        by_cases hlt : j < P.n
        · have hkind := H.out.kind j hlt
          have hnf := HBB.out j hlt
          have hE : ((P.pg j).cls == -1) = false := by rw [beq_eq_false_iff_ne]; omega
          clear hnf
          go_wp2_with fail
          go_round
          case rel => exact ⟨j + 1, by omega, by go_num⟩
          case measure => simp [intOf]; omega
        · go_wp2_with fail
          exact hR.out _ _ ⟨rfl, rfl⟩
theorem ralloc_bad (w : World) (q k c l : Nat) (P : Pl) (h : RRep w q k c l P) (hok : P.ok) (cl : Int) (hC : cl < 0 ∨ 2 < cl) :
    Calls Try.prog 68 #[.pointer (some ⟨q, 0, none⟩), .int .i64 cl] w fun e w' => e = .returned (.tuple #[.int .i64 0, .int .i64 1]) ∧ w = w' := by
  refine calls_abs fun R hR => ?_
  by_cases hlo : cl < 0
  · have hlo' : decide (cl < 0) = true := by simpa using hlo
    go_enter Try.func68, Try.ntmps68
    go_wp2_with fail
    exact hR.out _ _ ⟨rfl, rfl⟩
  · have hlo' : decide (cl < 0) = false := by simpa using hlo
    have hhi' : decide (2 < cl) = true := by simp; omega
    go_enter Try.func68, Try.ntmps68
    go_wp2_with fail
    exact hR.out _ _ ⟨rfl, rfl⟩
theorem ralloc_rep (w : World) (q k c l : Nat) (P : Pl) (h : RRep w q k c l P) (hok : P.ok) (cl : Int) :
    Calls Try.prog 68 #[.pointer (some ⟨q, 0, none⟩), .int .i64 cl] w fun e w' => e = .returned (.tuple #[.int .i64 (P.alloc cl).1, .int .i64 (P.alloc cl).2.1]) ∧ RRep w' q k c l (P.alloc cl).2.2 ∧ Only [k, c, l] w w' := by
  rcases P.alloc_cases cl with hc | ⟨hc, ⟨i, hi, hp, hb⟩ | ⟨hn, ⟨i, hi, hp, hb⟩ | hf⟩⟩
  · rw [Pl.alloc_bad hc]; exact (ralloc_bad w q k c l P h hok cl hc).mono fun e w' ⟨a, b⟩ => ⟨a, b ▸ h, b ▸ Only.refl _ _⟩
  · rw [Pl.alloc_part hc hi hp hb]; exact ralloc_part w q k c l P h hok cl hc i hi hp hb
  · rw [Pl.alloc_new hc hn hi hp hb]; exact ralloc_new w q k c l P h hok cl hc hn i hi hp hb
  · rw [Pl.alloc_full hc hn hf]; exact (ralloc_full w q k c l P h hok cl hc hn hf).mono fun e w' ⟨a, b⟩ => ⟨a, b ▸ h, b ▸ Only.refl _ _⟩
end Go.Proofs.Ythflghdaejbdkaa
namespace Go.Proofs.Ythflghdaejbdkaa
open Go.RowKit
set_option maxHeartbeats 1600000
set_option maxRecDepth 100000
set_option linter.unusedVariables false
theorem rin_of (w : World) (q k c l : Nat) (P : Pl) (h : RRep w q k c l P) (a : Int) :
    Calls Try.prog 96 #[.pointer (some ⟨q, 0, none⟩), .int .i64 a] w (Exact w (.bool (P.addr a))) := by
  refine calls_abs fun R hR => ?_
  obtain ⟨c1, c2, c3, z0, z1, z2, _⟩ := h.facts
  have h24 := h.n24
  have hb : Hid (P.addr a = (decide (0 ≤ a) && decide (a < (P.n * 16 : Nat)))) := by
    show _ = _
    unfold Pl.addr
    congr 1
    rw [decide_eq_decide]
    omega
  by_cases h0 : 0 ≤ a
  · go_enter Try.func96, Try.ntmps96
    go_wp2_with fail
    exact hR.out _ _ ⟨by rw [hb.out]; simp [h0], rfl⟩
  · have h0' : decide (0 ≤ a) = false := by simpa using h0
    have H0 := Lib.hid h0
    clear h0
    go_enter Try.func96, Try.ntmps96
    go_wp2_with fail
    exact hR.out _ _ ⟨by rw [hb.out, h0']; rfl, rfl⟩
structure Adr (P : Pl) (A i j : Nat) : Prop where
  hi : i = A / 16
  hj : j = A % 16
  hin : i < P.n
  hj16 : j < 16
  hA : A = i * 16 + j
theorem adr_of {P : Pl} {A : Nat} (hA : A < 16 * P.n) : ∃ i j, Adr P A i j := ⟨_, _, rfl, rfl, by omega, by omega, by omega⟩
theorem rbegin_rep (w : World) (q k c l : Nat) (P : Pl) (h : RRep w q k c l P) (hok : P.ok) (a : Int) :
    Calls Try.prog 90 #[.pointer (some ⟨q, 0, none⟩), .int .i64 a] w (Exact w (.tuple #[.int .i64 (P.begin a).1, .int .i64 (P.begin a).2])) := by
  refine calls_abs fun R hR => ?_
  obtain ⟨c1, c2, c3, z0, z1, z2, _⟩ := h.facts
  have h24 := h.n24
  have hin := rin_of w q k c l P h a
  cases ha : P.addr a with
  | false =>
    rw [Pl.begin_bad ha] at hR
    rw [ha] at hin
    clear ha
    go_enter Try.func90, Try.ntmps90
    go_wp2_with fail
    refine hin.mono ?_
    rintro e _ ⟨rfl, rfl⟩
    go_wp2_with fail
    exact hR.out _ _ ⟨rfl, rfl⟩
  | true =>
    rw [ha] at hin
    obtain ⟨A, rfl⟩ : ∃ A : Nat, a = A := ⟨a.toNat, by have := Pl.addr_iff.1 ha; omega⟩
    have hA : A < 16 * P.n := by have := Pl.addr_iff.1 ha; omega
    obtain ⟨i, j, s⟩ := adr_of hA
    have hq : (A : Int) / 16 = (i : Int) := by have := s.hi; omega
    have hi24 : i < 24 := by have := s.hin; omega
    have hkind := h.kind i s.hin
    by_cases hc : (P.pg (A / 16)).cls < 0
    · rw [Pl.begin_free ha (by simpa using hc)] at hR
      have hE : ((P.pg i).cls == -1) = true := by
        have := (hok i s.hin).neg.1 (by rw [s.hi]; exact hc)
        simpa using this
      have hin' := s.hin
      clear ha hc s
      go_enter Try.func90, Try.ntmps90
      go_wp2_with fail
      refine hin.mono ?_
      rintro e _ ⟨rfl, rfl⟩
      go_wp2_with fail
      exact hR.out _ _ ⟨rfl, rfl⟩
    · have hE : ((P.pg i).cls == -1) = false := by
        rw [beq_eq_false_iff_ne, s.hi]; omega
      have hC : IsC (P.pg i).cls := by
        rcases (hok i s.hin).cls with h1 | h1
        · rw [s.hi] at h1; omega
        · exact h1
      have hcut := fun wx => cut_of wx _ hC
      have hsz := hC.sz
      have hdv := hC.div s.hj16
      obtain ⟨z, hz⟩ : ∃ z, z = bsz (P.pg i).cls := ⟨_, rfl⟩
      obtain ⟨x, hx⟩ : ∃ x, x = j / z := ⟨_, rfl⟩
      obtain ⟨m, hm⟩ : ∃ m, m = x * z := ⟨_, rfl⟩
      have hlv : (P.pg i).live m = (P.pg i).used x := by rw [hm, hz]; exact Pg.live_at hC x
      rw [← hz, ← hx, ← hm] at hdv
      have hmj : m ≤ j := hdv.2.1
      have hmod : (A : Int) % (z : Int) = ((j - m : Nat) : Int) := by
        have e1 : A % z = j - m := by
          rw [s.hA]
          have h2 := hdv.2.2.2
          rw [← h2]
          rcases hC.facts with ⟨e, _⟩ | ⟨e, _⟩ | ⟨e, _⟩ <;> (rw [hz, e]; omega)
        rw [← e1]
        simp
      have hcell := h.live i s.hin m (by have := s.hj16; omega)
      rw [hlv] at hcell
      have hidx : ((A : Int) - ((j - m : Nat) : Int)) = ((i * 16 + m : Nat) : Int) := by have := s.hA; omega
      have hzz : ((z : Int) == 0) = false := by simp; omega
      have hz2 : 0 < z := by omega
      rw [← hz] at hcut
      have hin' := s.hin
      have hm16 : m < 16 := by have := s.hj16; omega
      have hA' := s.hA
      have hwr : IntKind.i64.wrap ((i * 16 + m : Nat) : Int) = ((i * 16 + m : Nat) : Int) := IntWalk.i64_in _ (by omega)
      have hjm : j - m ≤ A := by omega
      cases hu : (P.pg i).used x with
      | true =>
        have e1 : P.begin (A : Int) = (((i * 16 + m : Nat) : Int), 0) := by
          rw [Pl.begin_yes ha (by simpa using hc) (by have h1 := hu; rw [hx, hz, s.hj, s.hi] at h1; simpa using h1), hm, hx, hz, s.hj, s.hi]
          simp
        rw [e1] at hR
        rw [hu] at hcell
        have HA' := Lib.hid hA'
        clear ha hc s hu hdv hlv hm hx hz hsz hC e1 hA'
        go_enter Try.func90, Try.ntmps90
        go_wp2_with fail
        refine hin.mono ?_
        rintro e _ ⟨rfl, rfl⟩
        go_wp2_with fail
        refine (hcut _).mono ?_
        rintro e _ ⟨rfl, rfl⟩
        go_wp2_with fail
        exact hR.out _ _ ⟨rfl, rfl⟩
      | false =>
        have e1 : P.begin (A : Int) = (0, 3) := Pl.begin_no ha (by simpa using hc) (by have h1 := hu; rw [hx, hz, s.hj, s.hi] at h1; simpa using h1)
        rw [e1] at hR
        rw [hu] at hcell
        have HA' := Lib.hid hA'
        clear ha hc s hu hdv hlv hm hx hz hsz hC e1 hA'
        go_enter Try.func90, Try.ntmps90
        go_wp2_with fail
        refine hin.mono ?_
        rintro e _ ⟨rfl, rfl⟩
        go_wp2_with fail
        refine (hcut _).mono ?_
        rintro e _ ⟨rfl, rfl⟩
        go_wp2_with fail
        exact hR.out _ _ ⟨rfl, rfl⟩
theorem rsetCell_rep (w : World) (q k c l : Nat) (P : Pl) (h : RRep w q k c l P) (hok : P.ok) (a n : Int) :
    Calls Try.prog 71 #[.pointer (some ⟨q, 0, none⟩), .int .i64 a, .int .i64 n] w fun e w' =>
      e = .returned (.int .i64 (P.setCell a n).1) ∧ RRep w' q k c l (P.setCell a n).2 ∧ Only [k, c, l] w w' := by
  refine calls_abs fun R hR => ?_
  have hbg := rbegin_rep w q k c l P h hok a
  by_cases h0 : (P.begin a).2 = 0
  · have hb := Pl.begin_ok h0
    obtain ⟨A, rfl⟩ : ∃ A : Nat, a = A := ⟨a.toNat, hb.2.2.2.2.2.2⟩
    have hA : A < 16 * P.n := by have := Pl.addr_iff.1 hb.1; omega
    obtain ⟨i, j, s⟩ := adr_of hA
    have e1 : P.setCell (A : Int) n = (0, P.set i { P.pg i with cell := up (P.pg i).cell j n }) := by unfold Pl.setCell; rw [if_pos h0, s.hj, s.hi]; rfl
    rw [e1] at hR
    rw [h0] at hbg
    obtain ⟨c1, c2, c3, z0, z1, z2, f0, f1, f2, _⟩ := h.facts
    have h24 := h.n24
    have hcell := h.cells i s.hin j s.hj16
    have h1 := Lib.hid (h.setCell s.hin s.hj16 n)
    rw [← s.hA] at hcell h1
    have hAn : A < P.n * 16 := by omega
    generalize (P.begin (A : Int)).1 = B at hbg
    clear e1 h0 hb h s
    go_enter Try.func71, Try.ntmps71
    go_wp2_with fail
    refine hbg.mono ?_
    rintro e _ ⟨rfl, rfl⟩
    go_wp2_with fail
    exact hR.out _ _ ⟨rfl, h1.out, (Only.refl _ _).set (by simp) _⟩
  · have e1 : P.setCell a n = ((P.begin a).2, P) := by unfold Pl.setCell; rw [if_neg h0]
    rw [e1] at hR
    have hne : ((P.begin a).2 != 0) = true := by rw [bne_iff_ne]; exact h0
    clear h0 e1
    go_enter Try.func71, Try.ntmps71
    go_wp2_with fail
    refine hbg.mono ?_
    rintro e _ ⟨rfl, rfl⟩
    go_wp2_with fail
    exact hR.out _ _ ⟨rfl, h, Only.refl _ _⟩
end Go.Proofs.Ythflghdaejbdkaa
