/- Contracts of the reference's pools over the model Pl: in, Begin, Cell, SetCell, Free. -/
import Derived.Test.YtngmiacekcmidaaRBlockC
namespace Go.Proofs.Ytngmiacekcmidaa
open Go.RowKit
set_option maxHeartbeats 1600000
set_option maxRecDepth 100000
set_option linter.unusedVariables false

theorem rin_of (w : World) (q k c l : Nat) (P : Pl) (h : RRep w q k c l P) (a : Int) :
    Calls Try.prog 64 #[.pointer (some ⟨q, 0, none⟩), .int .i64 a] w (Exact w (.bool (P.addr a))) := by
  refine calls_abs fun R hR => ?_
  obtain ⟨c1, c2, c3, z0, z1, z2, _⟩ := h.facts
  have h24 := h.n24
  have hb : Hid (P.addr a = (decide (0 ≤ a) && decide (a < (P.n * 16 : Nat)))) := by
    show _ = _
    unfold Pl.addr
    congr 1
    rw [decide_eq_decide]
    omega
  by_cases h0 : 0 ≤ a
  · go_enter Try.func64, Try.ntmps64
    go_wp2_with fail
    exact hR.out _ _ ⟨by rw [hb.out]; simp [h0], rfl⟩
  · have h0' : decide (0 ≤ a) = false := by simpa using h0
    have H0 := Lib.hid h0
    clear h0
    go_enter Try.func64, Try.ntmps64
    go_wp2_with fail
    exact hR.out _ _ ⟨by rw [hb.out, h0']; rfl, rfl⟩

/-- What the walks want of an address of a cell. -/
structure Adr (P : Pl) (A i j : Nat) : Prop where
  hi : i = A / 16
  hj : j = A % 16
  hin : i < P.n
  hj16 : j < 16
  hA : A = i * 16 + j
theorem adr_of {P : Pl} {A : Nat} (hA : A < 16 * P.n) : ∃ i j, Adr P A i j := ⟨_, _, rfl, rfl, by omega, by omega, by omega⟩

theorem rbegin_rep (w : World) (q k c l : Nat) (P : Pl) (h : RRep w q k c l P) (hok : P.ok) (a : Int) :
    Calls Try.prog 35 #[.pointer (some ⟨q, 0, none⟩), .int .i64 a] w (Exact w (.tuple #[.int .i64 (P.begin a).1, .int .i64 (P.begin a).2])) := by
  refine calls_abs fun R hR => ?_
  obtain ⟨c1, c2, c3, z0, z1, z2, _⟩ := h.facts
  have h24 := h.n24
  have hin := rin_of w q k c l P h a
  cases ha : P.addr a with
  | false =>
    rw [Pl.begin_bad ha] at hR
    rw [ha] at hin
    clear ha
    go_enter Try.func35, Try.ntmps35
    go_wp2_with fail
    refine hin.mono ?_
    rintro e _ ⟨rfl, rfl⟩
    go_wp2_with fail
    exact hR.out _ _ ⟨rfl, rfl⟩
  | true =>
    rw [ha] at hin
    obtain ⟨A, rfl⟩ : ∃ A : Nat, a = A := ⟨a.toNat, by have := Pl.addr_iff.1 ha; omega⟩
    have hA : A < 16 * P.n := by have := Pl.addr_iff.1 ha; omega
    obtain ⟨i, j, s⟩ := adr_of hA
    have hq : (A : Int) / 16 = (i : Int) := by have := s.hi; omega
    have hi24 : i < 24 := by have := s.hin; omega
    have hkind := h.kind i s.hin
    by_cases hc : (P.pg (A / 16)).cls < 0
    · rw [Pl.begin_free ha (by simpa using hc)] at hR
      have hE : ((P.pg i).cls == -1) = true := by
        have := (hok i s.hin).neg.1 (by rw [s.hi]; exact hc)
        simpa using this
      have hin' := s.hin
      clear ha hc s
      go_enter Try.func35, Try.ntmps35
      go_wp2_with fail
      refine hin.mono ?_
      rintro e _ ⟨rfl, rfl⟩
      go_wp2_with fail
      exact hR.out _ _ ⟨rfl, rfl⟩
    · have hE : ((P.pg i).cls == -1) = false := by
        rw [beq_eq_false_iff_ne, s.hi]; omega
      have hC : IsC (P.pg i).cls := by
        rcases (hok i s.hin).cls with h1 | h1
        · rw [s.hi] at h1; omega
        · exact h1
      have hcut := fun wx => cut_of wx _ hC
      have hsz := hC.sz
      have hdv := hC.div s.hj16
      obtain ⟨z, hz⟩ : ∃ z, z = bsz (P.pg i).cls := ⟨_, rfl⟩
      obtain ⟨x, hx⟩ : ∃ x, x = j / z := ⟨_, rfl⟩
      obtain ⟨m, hm⟩ : ∃ m, m = x * z := ⟨_, rfl⟩
      have hlv : (P.pg i).live m = (P.pg i).used x := by rw [hm, hz]; exact Pg.live_at hC x
      rw [← hz, ← hx, ← hm] at hdv
      have hmj : m ≤ j := hdv.2.1
      have hmod : (A : Int) % (z : Int) = ((j - m : Nat) : Int) := by
        have e1 : A % z = j - m := by
          rw [s.hA]
          have h2 := hdv.2.2.2
          rw [← h2]
          rcases hC.facts with ⟨e, _⟩ | ⟨e, _⟩ | ⟨e, _⟩ <;> (rw [hz, e]; omega)
        rw [← e1]
        simp
      have hcell := h.live i s.hin m (by have := s.hj16; omega)
      rw [hlv] at hcell
      have hidx : ((A : Int) - ((j - m : Nat) : Int)) = ((i * 16 + m : Nat) : Int) := by have := s.hA; omega
      have hzz : ((z : Int) == 0) = false := by simp; omega
      have hz2 : 0 < z := by omega
      rw [← hz] at hcut
      have hin' := s.hin
      have hm16 : m < 16 := by have := s.hj16; omega
      have hA' := s.hA
      have hwr : IntKind.i64.wrap ((i * 16 + m : Nat) : Int) = ((i * 16 + m : Nat) : Int) := IntWalk.i64_in _ (by omega)
      have hjm : j - m ≤ A := by omega
      cases hu : (P.pg i).used x with
      | true =>
        have e1 : P.begin (A : Int) = (((i * 16 + m : Nat) : Int), 0) := by
          rw [Pl.begin_yes ha (by simpa using hc) (by have h1 := hu; rw [hx, hz, s.hj, s.hi] at h1; simpa using h1), hm, hx, hz, s.hj, s.hi]
          simp
        rw [e1] at hR
        rw [hu] at hcell
        have HA' := Lib.hid hA'
        clear ha hc s hu hdv hlv hm hx hz hsz hC e1 hA'
        go_enter Try.func35, Try.ntmps35
        go_wp2_with fail
        refine hin.mono ?_
        rintro e _ ⟨rfl, rfl⟩
        go_wp2_with fail
        refine (hcut _).mono ?_
        rintro e _ ⟨rfl, rfl⟩
        go_wp2_with fail
        exact hR.out _ _ ⟨rfl, rfl⟩
      | false =>
        have e1 : P.begin (A : Int) = (0, 3) := Pl.begin_no ha (by simpa using hc) (by have h1 := hu; rw [hx, hz, s.hj, s.hi] at h1; simpa using h1)
        rw [e1] at hR
        rw [hu] at hcell
        have HA' := Lib.hid hA'
        clear ha hc s hu hdv hlv hm hx hz hsz hC e1 hA'
        go_enter Try.func35, Try.ntmps35
        go_wp2_with fail
        refine hin.mono ?_
        rintro e _ ⟨rfl, rfl⟩
        go_wp2_with fail
        refine (hcut _).mono ?_
        rintro e _ ⟨rfl, rfl⟩
        go_wp2_with fail
        exact hR.out _ _ ⟨rfl, rfl⟩

theorem rcell_rep (w : World) (q k c l : Nat) (P : Pl) (h : RRep w q k c l P) (hok : P.ok) (a : Int) :
    Calls Try.prog 34 #[.pointer (some ⟨q, 0, none⟩), .int .i64 a] w (Exact w (.tuple #[.int .i64 (P.cell a).1, .int .i64 (P.cell a).2])) := by
  refine calls_abs fun R hR => ?_
  have hbg := rbegin_rep w q k c l P h hok a
  by_cases h0 : (P.begin a).2 = 0
  · have hb := Pl.begin_ok h0
    obtain ⟨A, rfl⟩ : ∃ A : Nat, a = A := ⟨a.toNat, hb.2.2.2.2.2.2⟩
    have hA : A < 16 * P.n := by have := Pl.addr_iff.1 hb.1; omega
    obtain ⟨i, j, s⟩ := adr_of hA
    have e1 : P.cell (A : Int) = ((P.pg i).cell j, 0) := by unfold Pl.cell; rw [if_pos h0, s.hj, s.hi]; rfl
    rw [e1] at hR
    rw [h0] at hbg
    obtain ⟨c1, c2, c3, z0, z1, z2, _⟩ := h.facts
    have h24 := h.n24
    have hcell := h.cells i s.hin j s.hj16
    rw [← s.hA] at hcell
    have hAn : A < P.n * 16 := by omega
    generalize (P.begin (A : Int)).1 = B at hbg
    clear e1 h0 hb h s
    go_enter Try.func34, Try.ntmps34
    go_wp2_with fail
    refine hbg.mono ?_
    rintro e _ ⟨rfl, rfl⟩
    go_wp2_with fail
    exact hR.out _ _ ⟨rfl, rfl⟩
  · have e1 : P.cell a = (0, (P.begin a).2) := by unfold Pl.cell; rw [if_neg h0]
    rw [e1] at hR
    have hne : ((P.begin a).2 != 0) = true := by rw [bne_iff_ne]; exact h0
    clear h0 e1
    go_enter Try.func34, Try.ntmps34
    go_wp2_with fail
    refine hbg.mono ?_
    rintro e _ ⟨rfl, rfl⟩
    go_wp2_with fail
    exact hR.out _ _ ⟨rfl, rfl⟩

theorem rsetCell_rep (w : World) (q k c l : Nat) (P : Pl) (h : RRep w q k c l P) (hok : P.ok) (a n : Int) :
    Calls Try.prog 40 #[.pointer (some ⟨q, 0, none⟩), .int .i64 a, .int .i64 n] w fun e w' =>
      e = .returned (.int .i64 (P.setCell a n).1) ∧ RRep w' q k c l (P.setCell a n).2 ∧ Only [k, c, l] w w' := by
  refine calls_abs fun R hR => ?_
  have hbg := rbegin_rep w q k c l P h hok a
  by_cases h0 : (P.begin a).2 = 0
  · have hb := Pl.begin_ok h0
    obtain ⟨A, rfl⟩ : ∃ A : Nat, a = A := ⟨a.toNat, hb.2.2.2.2.2.2⟩
    have hA : A < 16 * P.n := by have := Pl.addr_iff.1 hb.1; omega
    obtain ⟨i, j, s⟩ := adr_of hA
    have e1 : P.setCell (A : Int) n = (0, P.set i { P.pg i with cell := up (P.pg i).cell j n }) := by unfold Pl.setCell; rw [if_pos h0, s.hj, s.hi]; rfl
    rw [e1] at hR
    rw [h0] at hbg
    obtain ⟨c1, c2, c3, z0, z1, z2, f0, f1, f2, _⟩ := h.facts
    have h24 := h.n24
    have hcell := h.cells i s.hin j s.hj16
    have h1 := Lib.hid (h.setCell s.hin s.hj16 n)
    rw [← s.hA] at hcell h1
    have hAn : A < P.n * 16 := by omega
    generalize (P.begin (A : Int)).1 = B at hbg
    clear e1 h0 hb h s
    go_enter Try.func40, Try.ntmps40
    go_wp2_with fail
    refine hbg.mono ?_
    rintro e _ ⟨rfl, rfl⟩
    go_wp2_with fail
    exact hR.out _ _ ⟨rfl, h1.out, (Only.refl _ _).set (by simp) _⟩
  · have e1 : P.setCell a n = ((P.begin a).2, P) := by unfold Pl.setCell; rw [if_neg h0]
    rw [e1] at hR
    have hne : ((P.begin a).2 != 0) = true := by rw [bne_iff_ne]; exact h0
    clear h0 e1
    go_enter Try.func40, Try.ntmps40
    go_wp2_with fail
    refine hbg.mono ?_
    rintro e _ ⟨rfl, rfl⟩
    go_wp2_with fail
    exact hR.out _ _ ⟨rfl, h, Only.refl _ _⟩

/-- Where a used block begins. -/
theorem live_begin {P : Pl} (hok : P.ok) {A i j : Nat} (s : Adr P A i j) : (P.pg i).live j = true ↔ (P.begin (A : Int)).2 = 0 ∧ (P.begin (A : Int)).1 = A := by
  have hA : A < 16 * P.n := by have := s.hA; have := s.hin; have := s.hj16; omega
  have ha : P.addr (A : Int) = true := Pl.addr_iff.2 ⟨by omega, by omega⟩
  rcases (hok i s.hin).cls with hc | hC
  · rw [Pg.live_free hc, Pl.begin_free ha (by show (P.pg (A / 16)).cls < 0; rw [← s.hi, hc]; decide)]
    simp
  · have hc : ¬ (P.pg (A / 16)).cls < 0 := by rw [← s.hi]; rcases hC with e | e | e <;> omega
    rw [Pg.live_iff hC]
    have hdv := hC.div s.hj16
    constructor
    · rintro ⟨h1, h2⟩
      rw [Pl.begin_yes ha (by simpa using hc) (by rw [s.hi, s.hj] at h2; simpa using h2)]
      refine ⟨rfl, ?_⟩
      show ((A / 16 * 16 + A % 16 / bsz (P.pg (A / 16)).cls * bsz (P.pg (A / 16)).cls : Nat) : Int) = A
      rw [← s.hi, ← s.hj, ← h1, s.hA]
    · rintro ⟨h1, h2⟩
      have hb := Pl.begin_ok h1
      refine ⟨?_, by rw [s.hi, s.hj]; exact hb.2.2.1⟩
      have h3 := hb.2.2.2.1
      rw [h2] at h3
      have h4 : A = A / 16 * 16 + A % 16 / bsz (P.pg (A / 16)).cls * bsz (P.pg (A / 16)).cls := by exact_mod_cast h3
      rw [← s.hi, ← s.hj] at h4
      have := s.hA
      omega
theorem rfree_rep (w : World) (q k c l : Nat) (P : Pl) (h : RRep w q k c l P) (hok : P.ok) (a : Int) :
    Calls Try.prog 42 #[.pointer (some ⟨q, 0, none⟩), .int .i64 a] w fun e w' =>
      e = .returned (.int .i64 (P.free a).1) ∧ RRep w' q k c l (P.free a).2 ∧ Only [k, c, l] w w' := by
  refine calls_abs fun R hR => ?_
  obtain ⟨c1, c2, c3, z0, z1, z2, f0, f1, f2, _⟩ := h.facts
  have h24 := h.n24
  have hin := rin_of w q k c l P h a
  cases ha : P.addr a with
  | false =>
    have e1 : P.free a = (1, P) := by unfold Pl.free; rw [Pl.begin_bad ha]; rfl
    rw [e1] at hR
    rw [ha] at hin
    clear ha e1
    go_enter Try.func42, Try.ntmps42
    go_wp2_with fail
    refine hin.mono ?_
    rintro e _ ⟨rfl, rfl⟩
    go_wp2_with fail
    exact hR.out _ _ ⟨rfl, h, Only.refl _ _⟩
  | true =>
    rw [ha] at hin
    obtain ⟨A, rfl⟩ : ∃ A : Nat, a = A := ⟨a.toNat, by have := Pl.addr_iff.1 ha; omega⟩
    have hA : A < 16 * P.n := by have := Pl.addr_iff.1 ha; omega
    obtain ⟨i, j, s⟩ := adr_of hA
    have hcell := h.live i s.hin j s.hj16
    rw [← s.hA] at hcell
    have hAn : A < P.n * 16 := by omega
    have hq : (A : Int) / 16 = (i : Int) := by have := s.hi; omega
    have hlb := live_begin hok s
    have hi24 : i < 24 := by have := s.hin; omega
    have hin' := s.hin
    have hj' := s.hj16
    cases hlv : (P.pg i).live j with
    | false =>
      have e1 : P.free (A : Int) = (3, P) := by
        unfold Pl.free
        by_cases h0 : (P.begin (A : Int)).2 = 0
        · rw [if_pos h0, if_neg (fun h1 => by rw [hlb.2 ⟨h0, h1⟩] at hlv; cases hlv)]
        · rw [if_neg h0]
          rcases (Pl.begin_err h0).2 with h1 | h1
          · exfalso
            by_cases hc : (P.pg (A / 16)).cls < 0
            · rw [Pl.begin_free ha (by simpa using hc)] at h1; cases h1
            · cases hu : (P.pg (A / 16)).used (A % 16 / bsz (P.pg (A / 16)).cls) with
              | true => rw [Pl.begin_yes ha (by simpa using hc) (by simpa using hu)] at h1; cases h1
              | false => rw [Pl.begin_no ha (by simpa using hc) (by simpa using hu)] at h1; cases h1
          · rw [h1]
      rw [e1] at hR
      rw [hlv] at hcell
      clear ha e1 hlb s hlv
      go_enter Try.func42, Try.ntmps42
      go_wp2_with fail
      refine hin.mono ?_
      rintro e _ ⟨rfl, rfl⟩
      go_wp2_with fail
      exact hR.out _ _ ⟨rfl, h, Only.refl _ _⟩
    | true =>
      obtain ⟨b1, b2⟩ := hlb.1 hlv
      have hC : IsC (P.pg i).cls := by
        rcases (hok i s.hin).cls with h1 | h1
        · rw [Pg.live_free h1] at hlv; cases hlv
        · exact h1
      have hne : (P.pg i).cls ≠ -1 := by rcases hC with e | e | e <;> omega
      obtain ⟨x, hx⟩ : ∃ x, x = j / bsz (P.pg i).cls := ⟨_, rfl⟩
      have hl2 := (Pg.live_iff hC j).1 hlv
      rw [← hx] at hl2
      have hrel : Hid ((P.pg i).release x = if cnt (up (P.pg i).used x false) 8 = 0 then { P.pg i with used := up (P.pg i).used x false, cls := -1 } else { P.pg i with used := up (P.pg i).used x false }) := by
        show _ = _
        unfold Pg.release
        split <;> rfl
      have e1 : P.free (A : Int) = (0, P.set i ((P.pg i).release x)) := by
        unfold Pl.free
        rw [if_pos b1, if_pos b2, hx, s.hj, s.hi]; simp
      rw [e1] at hR
      rw [hlv] at hcell
      have h1 := h.setLive s.hin s.hj16 false (up (P.pg i).used x false) (fun y hy => by rw [Pg.live_up hC x false y, ← hl2.1])
      have hokw : ({ P.pg i with used := up (P.pg i).used x false } : Pg).okw := .inr ⟨hC, fun y hy => by
        show up (P.pg i).used x false y = false
        by_cases e : y = x
        · rw [e, up_same]
        · rw [up_other _ _ e]; exact (hok i s.hin).high hne y hy⟩
      have hcnt := rcount_of _ q k c l _ h1 i s.hin (by rw [Pl.set_same]; exact hokw)
      rw [Pl.set_same, ← s.hA] at hcnt
      have hkind := h1.kind i s.hin
      rw [Pl.set_same, ← s.hA] at hkind
      obtain ⟨d1, d2, d3, y0, y1, y2, g0, g1, g2, _⟩ := h1.facts
      have hn1 : (P.set i { P.pg i with used := up (P.pg i).used x false }).n = P.n := rfl
      rw [← s.hA] at y0 y1 y2 g0
      rw [hn1] at y0
      have H1 := Lib.hid h1
      rw [← s.hA] at H1
      have hnn := h.ne
      obtain ⟨n1, n2, n3, n4, n5, n6⟩ := hnn
      have HOKW := Lib.hid hokw
      have hcnt' : Hid (({ P.pg i with used := up (P.pg i).used x false } : Pg).count = cnt (up (P.pg i).used x false) 8) := rfl
      clear ha e1 hlb s hlv b1 b2 hx hl2 h1 hC hokw g1 g2 hne
      generalize hcv : ({ P.pg i with used := up (P.pg i).used x false } : Pg).count = cv at hcnt hcnt'
      clear hcv
      cases hz : ((cv : Int) == 0)
      · have hz' : ¬ cnt (up (P.pg i).used x false) 8 = 0 := by rw [← hcnt'.out]; simpa using hz
        have HZ := Lib.hid hz'
        clear hz'
        go_enter Try.func42, Try.ntmps42
        go_wp2_with fail
        refine hin.mono ?_
        rintro e _ ⟨rfl, rfl⟩
        go_wp2_with fail
        refine hcnt.mono ?_
        rintro e _ ⟨rfl, rfl⟩
        go_wp2_with fail
        refine hR.out _ _ ⟨rfl, ?_, (Only.refl _ _).set (by simp) _⟩
        rw [hrel.out, if_neg HZ.out]
        exact H1.out
      · have hz' : cnt (up (P.pg i).used x false) 8 = 0 := by rw [← hcnt'.out]; simpa using hz
        have hall := cnt_eq_zero.1 hz'
        have hnone : ∀ y, up (P.pg i).used x false y = false := by
          intro y
          rcases HOKW.out with ⟨e1, e2⟩ | ⟨e1, e2⟩
          · exact e2 y
          · by_cases hy : y < 8
            · exact hall y hy
            · have h8 := e1.sz
              have h9 := e2 y (by omega)
              exact h9
        have h2 := H1.out.setKind (i := i) hin' (-1) (fun y hy => by
          rw [Pl.set_same]
          rw [Pg.live_free rfl]
          unfold Pg.live
          show false = (_ && _ && up (P.pg i).used x false _)
          rw [hnone]
          simp)
        rw [Pl.set_same, Pl.set_set] at h2
        have H2 := Lib.hid h2
        have HZ := Lib.hid hz'
        clear hz' hall hnone h2
        go_enter Try.func42, Try.ntmps42
        go_wp2_with fail
        refine hin.mono ?_
        rintro e _ ⟨rfl, rfl⟩
        go_wp2_with fail
        refine hcnt.mono ?_
        rintro e _ ⟨rfl, rfl⟩
        go_wp2_with fail
        refine hR.out _ _ ⟨rfl, ?_, ((Only.refl _ _).set (by simp) _).set (by simp) _⟩
        rw [hrel.out, if_pos HZ.out]
        exact H2.out
end Go.Proofs.Ytngmiacekcmidaa
