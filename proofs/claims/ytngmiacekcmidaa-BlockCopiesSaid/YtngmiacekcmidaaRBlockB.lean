/- Contracts of the reference's pools over the model Pl: gap, take, Alloc. -/
import Derived.Test.YtngmiacekcmidaaRBlock
namespace Go.Proofs.Ytngmiacekcmidaa
open Go.RowKit
set_option maxHeartbeats 1600000
set_option maxRecDepth 100000
set_option linter.unusedVariables false

theorem IsC.full {c : Int} (h : IsC c) : bpt c * bsz c = 16 := by rcases h.facts with ⟨h1, h2⟩ | ⟨h1, h2⟩ | ⟨h1, h2⟩ <;> rw [h1, h2]
theorem Pl.set_set (P : Pl) (i : Nat) (x y : Pg) : (P.set i x).set i y = P.set i y := by
  unfold Pl.set
  congr 1
  funext j
  by_cases e : j = i
  · subst e; rw [up_same, up_same]
  · rw [up_other _ _ e, up_other _ _ e]; exact up_other _ _ e
theorem Pl.set_get (P : Pl) (i : Nat) : P.set i (P.pg i) = P := by
  unfold Pl.set
  cases P
  congr 1
  funext j
  by_cases e : j = i
  · subst e; rw [up_same]
  · rw [up_other _ _ e]

/-- What gap tells. -/
def gapV (P : Pl) (i : Nat) : Int := if (P.pg i).gap (P.pg i).cls < bpt (P.pg i).cls then ((16 * i + (P.pg i).gap (P.pg i).cls * bsz (P.pg i).cls : Nat) : Int) else -1
theorem rgap_of (w : World) (q k c l : Nat) (P : Pl) (h : RRep w q k c l P) (i : Nat) (hi : i < P.n) (hC : IsC (P.pg i).cls) :
    Calls Try.prog 55 #[.pointer (some ⟨q, 0, none⟩), .int .i64 i] w (Exact w (.int .i64 (gapV P i))) := by
  refine calls_abs fun R hR => ?_
  obtain ⟨c1, c2, c3, z0, z1, z2, _⟩ := h.facts
  have h24 := h.n24
  have hkind := h.kind i hi
  obtain ⟨cl, hcl⟩ : ∃ cl, cl = (P.pg i).cls := ⟨_, rfl⟩
  have hgv : Hid (gapV P i = if (P.pg i).gap cl < bpt cl then ((16 * i + (P.pg i).gap cl * bsz cl : Nat) : Int) else -1) := by show _ = _; rw [hcl]; rfl
  have hlv : Hid (∀ m, (P.pg i).live (m * bsz cl) = (P.pg i).used m) := by rw [hcl]; exact Pg.live_at hC
  rw [← hcl] at hC hkind
  have hcut := fun wx => cut_of wx cl hC
  have hblk : ∀ k, k < bpt cl → k * bsz cl + bsz cl ≤ 16 ∧ (k + 1) * bsz cl = k * bsz cl + bsz cl := fun k hk => hC.blk hk
  have hfull := hC.full
  have hsz := hC.sz
  obtain ⟨z, hz⟩ : ∃ z, z = bsz cl := ⟨_, rfl⟩
  obtain ⟨n, hn⟩ : ∃ n, n = bpt cl := ⟨_, rfl⟩
  have HZ := Lib.hid hz
  have HN := Lib.hid hn
  rw [← hz] at hblk hfull hsz hgv hcut hlv
  rw [← hn] at hblk hfull hsz hgv
  have HB := Lib.hid hblk
  have HF := Lib.hid hfull
  have hz2 : 2 ≤ z := by omega
  have hz8 : z ≤ 8 := by omega
  have hn8 : n ≤ 8 := by omega
  have H := Lib.hid h
  clear hz hn hblk hfull hsz h hcl
  go_enter Try.func55, Try.ntmps55
  go_wp2_with fail
  go_loop [5] (fun v => ∃ m s : Nat, m ≤ n ∧ Hid (s = m * z) ∧ v = .int .i64 s ∧ Hid (∀ x, x < m → (P.pg i).used x = true) ∧ s ≤ 16) (fun v => 16 - (intOf v).toNat)
  case atStart => exact ⟨0, 0, by omega, (Nat.zero_mul _).symm, rfl, fun x hx => by omega, by omega⟩
  case round =>
    obtain ⟨m, s, hm, hs, rfl, hu, hs16⟩ := hrel
    by_cases hlt : m < n
    · have hb := HB.out _ hlt
      have hsz16 : s + z ≤ 16 := by rw [hs.out]; exact hb.1
      have hnext : Hid (s + z = (m + 1) * z) := by show _ = _; rw [hb.2, hs.out]
      have hcell := H.out.live i hi s (by omega)
      rw [show (P.pg i).live s = (P.pg i).used m by rw [hs.out]; exact hlv.out m] at hcell
      have hidx : ((i : Int) * 16 + (s : Int)).toNat = i * 16 + s := by omega
      clear hb
      cases hused : (P.pg i).used m with
      | true =>
        rw [hused] at hcell
        have HU := Lib.hid hused
        clear hused
        go_wp2_with fail
        refine (hcut _).mono ?_
        rintro e _ ⟨rfl, rfl⟩
        go_wp2_with fail
        go_round
        case rel => exact ⟨m + 1, s + z, by omega, hnext, by go_num, fun x hx => by
          by_cases e : x = m
          · rw [e]; exact HU.out
          · exact hu.out x (by omega), by omega⟩
        case measure => simp [intOf]; omega
      | false =>
        rw [hused] at hcell
        have hval : Hid (gapV P i = (i : Int) * 16 + (s : Int)) := by
          have e1 : (P.pg i).gap cl = m := by
            unfold Pg.gap
            exact fst_eq (by rw [← HN.out]; exact hlt) (by rw [hused]; rfl) (fun x hx => by rw [hu.out x hx]; rfl)
          show _ = _
          rw [hgv.out, e1, if_pos hlt, ← hs.out]
          omega
        clear hused
        go_wp2_with fail
        exact hR.out _ _ ⟨by rw [hval.out], rfl⟩
    · obtain rfl : m = n := by omega
      have hs' : s = 16 := by rw [hs.out]; exact HF.out
      have hval : Hid (gapV P i = -1) := by
        have e1 : (P.pg i).gap cl = m := by
          rw [HN.out]
          unfold Pg.gap
          exact fst_none (fun x hx => by rw [← HN.out] at hx; rw [hu.out x hx]; rfl)
        show _ = _
        rw [hgv.out, e1, if_neg (by omega)]
      subst hs'
      go_wp2_with fail
      exact hR.out _ _ ⟨by rw [hval.out], rfl⟩
theorem gap_partly {p : Pg} (h : p.ok) (hC : IsC p.cls) : (p.gap p.cls < bpt p.cls) ↔ p.partly p.cls = true := by
  have hne : p.cls ≠ -1 := by rcases hC with e | e | e <;> omega
  constructor
  · intro hg
    refine Pg.partly_iff.2 ⟨rfl, ?_⟩
    rw [h.count hne]
    have h2 := (fst_spec (fun k => !p.used k) (bpt p.cls)).2 hg
    exact cnt_lt_iff.2 ⟨_, hg, by simp only [Bool.not_eq_true'] at h2; exact h2⟩
  · exact fun hp => (h.gap hC hp).1

theorem take_of (w : World) (q k c l : Nat) (P : Pl) (h : RRep w q k c l P) (i : Nat) (hi : i < P.n) (cl : Int) (hC : IsC cl) (hcl : (P.pg i).cls = cl) (x m z : Nat) (hx : x < bpt cl) (hz : z = bsz cl) (hm : m = x * z) (a : Int) (ha : a = ((i * 16 + m : Nat) : Int)) :
    Calls Try.prog 56 #[.pointer (some ⟨q, 0, none⟩), .int .i64 a, .int .i64 z] w fun e w' => e = .returned (.tuple #[]) ∧ RRep w' q k c l (P.set i ((P.pg i).take cl x fun _ => 0)) ∧ Only [c, l] w w' := by
  refine calls_abs fun R hR => ?_
  obtain ⟨A, hA⟩ : ∃ A : Nat, A = i * 16 + m := ⟨_, rfl⟩
  rw [← hA] at ha
  subst ha
  obtain ⟨c1, c2, c3, z0, z1, z2, f0, f1, f2, _⟩ := h.facts
  have h24 := h.n24
  have hsz := hC.sz
  have hb := hC.blk hx
  rw [← hz, ← hm] at hb
  have hm16 : m < 16 := by omega
  have hmz : m + z ≤ 16 := hb.1
  have hz8 : z ≤ 8 := by omega
  have hlv := h.live i hi m hm16
  rw [← hA] at hlv
  have hAn : A < P.n * 16 := by omega
  have h1 := h.setLive hi hm16 true (up (P.pg i).used x true) (fun y hy => by
    rw [show m = x * bsz (P.pg i).cls by rw [hcl, ← hz]; exact hm]
    exact Pg.live_up (by rw [hcl]; exact hC) x true y)
  rw [← hA] at h1
  have o1 : Only [c, l] w (w.setCell ⟨l, A, none⟩ (.bool true)) := (Only.refl _ _).set (by simp) _
  have HST : Hid (RRep (w.setCell ⟨l, A, none⟩ (.bool true)) q k c l (P.set i { cls := cl, used := up (P.pg i).used x true, cell := fun j => if m ≤ j ∧ j < m + 0 then 0 else (P.pg i).cell j })) := by
    have e : ({ P.pg i with used := up (P.pg i).used x true } : Pg) = { cls := cl, used := up (P.pg i).used x true, cell := fun j => if m ≤ j ∧ j < m + 0 then 0 else (P.pg i).cell j } := by
      show (⟨(P.pg i).cls, up (P.pg i).used x true, (P.pg i).cell⟩ : Pg) = _
      rw [hcl]
      congr 1
      funext j
      rw [if_neg (by omega)]
    rw [e] at h1
    exact h1
  have hfin : Hid ((P.pg i).take cl x (fun _ => 0) = { cls := cl, used := up (P.pg i).used x true, cell := fun j => if m ≤ j ∧ j < m + z then 0 else (P.pg i).cell j }) := by
    show _ = _
    unfold Pg.take
    rw [← hz, ← hm]
  have O1 := Lib.hid o1
  have HA := Lib.hid hA
  clear h h1 o1 hb hsz hcl hz hm hA
  go_enter Try.func56, Try.ntmps56
  go_wp2_with fail
  go_loopw [6] (fun v wr => ∃ y : Nat, y ≤ z ∧ v = .int .i64 y ∧ RRep wr q k c l (P.set i { cls := cl, used := up (P.pg i).used x true, cell := fun j => if m ≤ j ∧ j < m + y then 0 else (P.pg i).cell j }) ∧ Only [c, l] w wr) (fun v _ => z - (intOf v).toNat)
  case atStart => exact ⟨0, by omega, rfl, HST.out, O1.out⟩
  case round =>
    clear z0 z1 z2 f0 f1 f2 hlv
    obtain ⟨y, hy, rfl, h2, o2⟩ := hrel
    obtain ⟨d1, d2, d3, z0, z1, z2, f0, f1, f2, _⟩ := h2.facts
    simp only [Pl.set_n] at z0 z1 z2
    by_cases hlt : y < z
    · have hcell := h2.cells i hi (m + y) (by omega)
      have hAy : A + y < P.n * 16 := by have := HA.out; omega
      have h3 := h2.setCell (i := i) (j := m + y) hi (by omega) 0
      rw [Pl.set_same, Pl.set_set] at h3
      have e : up (fun j => if m ≤ j ∧ j < m + y then (0 : Int) else (P.pg i).cell j) (m + y) 0 = fun j => if m ≤ j ∧ j < m + (y + 1) then 0 else (P.pg i).cell j := by
        funext j
        unfold up
        by_cases e1 : j = m + y
        · rw [if_pos e1, if_pos (by omega)]
        · rw [if_neg e1]
          show (if m ≤ j ∧ j < m + y then (0 : Int) else (P.pg i).cell j) = _
          by_cases e2 : m ≤ j ∧ j < m + y
          · rw [if_pos e2, if_pos (by omega)]
          · rw [if_neg e2, if_neg (by omega)]
      have H3 : Hid (RRep (wr.setCell ⟨c, A + y, none⟩ (.int .i64 0)) q k c l (P.set i { cls := cl, used := up (P.pg i).used x true, cell := fun j => if m ≤ j ∧ j < m + (y + 1) then 0 else (P.pg i).cell j })) := by
        rw [HA.out, Nat.add_assoc, ← e]
        exact h3
      have hidx : ((A : Int) + (y : Int)).toNat = A + y := by omega
      rw [← Nat.add_assoc, ← HA.out] at hcell
      have H2 := Lib.hid h2
      clear h2 h3 e
      go_wp2_with fail
      exact ⟨⟨y + 1, by omega, by go_num, H3.out, o2.set (by simp) _⟩, by simp [intOf]; omega⟩
    · obtain rfl : y = z := by omega
      go_wp2_with fail
      go_end0
      refine hR.out _ _ ⟨rfl, ?_, o2⟩
      rw [hfin.out]
      exact h2
end Go.Proofs.Ytngmiacekcmidaa
