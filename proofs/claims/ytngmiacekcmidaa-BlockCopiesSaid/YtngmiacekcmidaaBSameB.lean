/- Contracts of Same on both sides: equal pools. -/
import Derived.Test.YtngmiacekcmidaaBSame
import Derived.Test.YtngmiacekcmidaaRBlockI
namespace Go.Proofs.Ytngmiacekcmidaa
open Go.RowKit
set_option maxHeartbeats 3200000
set_option maxRecDepth 100000
set_option linter.unusedVariables false

def Pl.same (P Q : Pl) : Bool := allN (fun i => (P.pg i).same (Q.pg i)) P.n
theorem same_rep (w : World) (p b : Nat) (P : Pl) (h : PRep w p b P) (p2 b2 : Nat) (Q : Pl) (h2 : PRep w p2 b2 Q) (hn : Q.n = P.n) :
    Calls Try.prog 45 #[.pointer (some ⟨p, 0, none⟩), .pointer (some ⟨p2, 0, none⟩)] w fun e w' => e = .returned (.bool (P.same Q)) ∧ Drew w w' := by
  refine calls_abs fun R hR => ?_
  obtain ⟨cap, z0, _⟩ := h.facts
  obtain ⟨cap2, y0, _⟩ := h2.facts
  rw [hn] at y0
  have h24 := h.n24
  have H := Lib.hid h
  have H2 := Lib.hid h2
  have HN := Lib.hid hn
  have hn1 := fun n => none_rep (w.drewN n) p b P (h.drewN n)
  have hn2 := fun n => none_rep (w.drewN n) p2 b2 Q (h2.drewN n)
  clear h h2 hn
  go_enter Try.func45, Try.ntmps45
  go_wp2_with fail
  go_quiet (first | (go_at_call 57; first | (with_reducible exact quiet_exact (hn1 _)) | (with_reducible exact quiet_exact (hn2 _))))
  clear hn1 hn2
  go_wp2_with fail
  go_loopw [5, 36] (fun _ v wr => ∃ k : Nat, k ≤ P.n ∧ v = .int .i64 k ∧ Hid (∀ j, j < k → (P.pg j).same (Q.pg j) = true) ∧ Drew w wr) (fun _ v _ => P.n - (intOf v).toNat)
  case atStart => exact ⟨0, by omega, rfl, fun j hj => by omega, Drew.of _ _⟩
  case round =>
    obtain ⟨k, hk, rfl, hf, hdr⟩ := hrel
    have HDR := Lib.hid hdr
    have z0 := hdr.cell z0
    have y0 := hdr.cell y0
    by_cases hlt : k < P.n
    · have hs := fun n => same_of (wr.drewN n) b (k * 25) (P.pg k) (((H.out.drewTo hdr).pg k hlt).drewN n) b2 (k * 25) (Q.pg k) (((H2.out.drewTo hdr).pg k (by rw [HN.out]; exact hlt)).drewN n) (H.out.ok k hlt) (H2.out.ok k (by rw [HN.out]; exact hlt))
      have hs2 : ∀ n, Calls Try.prog 70 #[.pointer (some ⟨b, k * 25, none⟩), .pointer (some ⟨b2, k * 25, none⟩)] (wr.drewN n) fun e w'' => e = .returned (.bool ((P.pg k).same (Q.pg k))) ∧ ∃ m, w'' = wr.drewN m := fun n => Calls.quiet_of (hs n)
      clear hs
      cases hsame : (P.pg k).same (Q.pg k) with
      | true =>
        rw [hsame] at hs2
        have HSA := Lib.hid hsame
        clear hsame hdr
        go_wp2_with fail
        go_quiet (first | (go_at_call 70; with_reducible exact hs2 _))
        go_wp2_with fail
        exact ⟨⟨k + 1, by omega, by go_num, fun j hj => by
          by_cases e : j = k
          · rw [e]; exact HSA.out
          · exact hf.out j (by omega), HDR.out.more _⟩, by simp [intOf]; omega⟩
      | false =>
        rw [hsame] at hs2
        have HSA : Hid (P.same Q = false) := allN_no hlt hsame
        rw [HSA.out] at hR
        clear hsame hdr HSA
        go_wp2_with fail
        go_quiet (first | (go_at_call 70; with_reducible exact hs2 _))
        go_wp2_with fail
        exact hR.out _ _ ⟨rfl, HDR.out.more _⟩
    · have hkn : k = P.n := by omega
      have HSA : Hid (P.same Q = true) := allN_iff.2 (by rw [← hkn]; exact hf.out)
      rw [HSA.out] at hR
      clear hdr HSA
      go_wp2_with fail
      exact hR.out _ _ ⟨rfl, HDR.out⟩

/-- What the document compares at an address. -/
def Pl.rat (P Q : Pl) (A : Nat) : Bool := decide (P.cell (A : Int) = Q.cell (A : Int)) && ((P.pg (A / 16)).live (A % 16) == (Q.pg (A / 16)).live (A % 16))
def Pl.rsame (P Q : Pl) : Bool := allN (fun i => (P.pg i).cls == (Q.pg i).cls) P.n && allN (P.rat Q) (P.n * 16)
theorem rsame_rep (w : World) (q k c l : Nat) (P : Pl) (h : RRep w q k c l P) (q2 k2 c2 l2 : Nat) (Q : Pl) (h2 : RRep w q2 k2 c2 l2 Q) (hn : Q.n = P.n) (hP : P.ok) (hQ : Q.ok) :
    Calls Try.prog 47 #[.pointer (some ⟨q, 0, none⟩), .pointer (some ⟨q2, 0, none⟩)] w fun e w' => e = .returned (.bool (P.rsame Q)) ∧ Drew w w' := by
  refine calls_abs fun R hR => ?_
  obtain ⟨x1, x2, x3, z0, z1, z2, _⟩ := h.facts
  obtain ⟨v1, v2, v3, y0, y1, y2, _⟩ := h2.facts
  rw [hn] at y0 y1 y2
  have h24 := h.n24
  have H := Lib.hid h
  have H2 := Lib.hid h2
  have HN := Lib.hid hn
  have HPK := Lib.hid hP
  have HQK := Lib.hid hQ
  have hrs : Hid (P.rsame Q = (allN (fun i => (P.pg i).cls == (Q.pg i).cls) P.n && allN (P.rat Q) (P.n * 16))) := rfl
  clear h h2 hn hP hQ
  go_enter Try.func47, Try.ntmps47
  go_wp2_with fail
  go_quiet (fail)
  go_wp2_with fail
  go_loopw [5] (fun v wr => ∃ x : Nat, x ≤ P.n ∧ v = .int .i64 x ∧ Hid (∀ j, j < x → ((P.pg j).cls == (Q.pg j).cls) = true) ∧ Drew w wr) (fun v _ => P.n - (intOf v).toNat)
  case atStart => exact ⟨0, by omega, rfl, fun j hj => by omega, Drew.of _ _⟩
  case round =>
    obtain ⟨x, hx, rfl, hf, hdr⟩ := hrel
    have HDR := Lib.hid hdr
    have z0 := hdr.cell z0
    have y0 := hdr.cell y0
    by_cases hlt : x < P.n
    · have k0 := hdr.cell (H.out.kind x hlt)
      have k1 := hdr.cell (H2.out.kind x (by rw [HN.out]; exact hlt))
      cases hsame : ((P.pg x).cls == (Q.pg x).cls) with
      | true =>
        have he : (P.pg x).cls = (Q.pg x).cls := by simpa using hsame
        have HSA := Lib.hid hsame
        rw [← he] at k1
        generalize (P.pg x).cls = u at k0 k1
        clear hsame hdr he
        go_wp2_with fail
        go_quiet (fail)
        go_wp2_with fail
        exact ⟨⟨x + 1, by omega, by go_num, fun j hj => by
          by_cases e : j = x
          · rw [e]; exact HSA.out
          · exact hf.out j (by omega), HDR.out.more _⟩, by simp [intOf]; omega⟩
      | false =>
        have HSA : Hid (P.rsame Q = false) := by show _ = _; rw [hrs.out, allN_no (f := fun i => (P.pg i).cls == (Q.pg i).cls) hlt hsame]; rfl
        rw [HSA.out] at hR
        have he : ((P.pg x).cls != (Q.pg x).cls) = true := by simpa using hsame
        generalize (P.pg x).cls = u at *
        generalize (Q.pg x).cls = v at *
        clear hsame hdr HSA
        go_wp2_with fail
        go_quiet (fail)
        go_wp2_with fail
        exact hR.out _ _ ⟨rfl, HDR.out.more _⟩
    · have hkn : x = P.n := by omega
      have HK : Hid (allN (fun i => (P.pg i).cls == (Q.pg i).cls) P.n = true) := allN_iff.2 (by rw [← hkn]; exact hf.out)
      clear hf hkn
      have D0 := Lib.hid hdr
      obtain ⟨wo, rfl⟩ : ∃ wo : World, wo = wr := ⟨_, rfl⟩
      have z1 := hdr.cell z1
      have z2 := hdr.cell z2
      have y1 := hdr.cell y1
      have y2 := hdr.cell y2
      clear hdr
      go_wp2_with fail
      go_loopw [6, 7, 8, 9, 10] (fun v _ _ _ _ wr => ∃ x : Nat, x ≤ P.n * 16 ∧ v = .int .i64 x ∧ Hid (∀ j, j < x → P.rat Q j = true) ∧ Drew wo wr) (fun v _ _ _ _ _ => P.n * 16 - (intOf v).toNat)
      case atStart => exact ⟨0, by omega, rfl, fun j hj => by omega, Drew.refl _⟩
      case round =>
        clear hlt
        obtain ⟨x, hx, rfl, hf, hdr⟩ := hrel
        have HDR := Lib.hid hdr
        have z1 := hdr.cell z1
        have z2 := hdr.cell z2
        have y1 := hdr.cell y1
        have y2 := hdr.cell y2
        have HW := Lib.hid (H.out.drewTo (D0.out.trans hdr))
        have HW2 := Lib.hid (H2.out.drewTo (D0.out.trans hdr))
        by_cases hlt : x < P.n * 16
        · have e1 := rcell_rep wr q k c l P HW.out HPK.out (x : Int)
          have e2 : Hid (∀ wx, RRep wx q2 k2 c2 l2 Q → Calls Try.prog 34 #[.pointer (some ⟨q2, 0, none⟩), .int .i64 (x : Int)] wx (Exact wx (.tuple #[.int .i64 (Q.cell (x : Int)).1, .int .i64 (Q.cell (x : Int)).2]))) := fun wx hw => rcell_rep wx q2 k2 c2 l2 Q hw HQK.out (x : Int)
          have hla := HW.out.live (x / 16) (by omega) (x % 16) (by omega)
          have hlb := HW2.out.live (x / 16) (by rw [HN.out]; omega) (x % 16) (by omega)
          rw [show x / 16 * 16 + x % 16 = x by omega] at hla hlb
          have hrt : Hid (P.rat Q x = (decide (P.cell (x : Int) = Q.cell (x : Int)) && ((P.pg (x / 16)).live (x % 16) == (Q.pg (x / 16)).live (x % 16)))) := rfl
          have hno : Hid (P.rat Q x = false → P.rsame Q = false) := fun h => by rw [hrs.out, allN_no hlt h]; simp
          generalize P.cell (x : Int) = r1 at *
          generalize Q.cell (x : Int) = r2 at *
          generalize (P.pg (x / 16)).live (x % 16) = b1 at *
          generalize (Q.pg (x / 16)).live (x % 16) = b2 at *
          obtain ⟨r11, r12⟩ := r1
          obtain ⟨r21, r22⟩ := r2
          have e1 : Calls Try.prog 34 #[.pointer (some ⟨q, 0, none⟩), .int .i64 (x : Int)] wr (Exact wr (.tuple #[.int .i64 r11, .int .i64 r12])) := e1
          have e2 : Hid (∀ wx, RRep wx q2 k2 c2 l2 Q → Calls Try.prog 34 #[.pointer (some ⟨q2, 0, none⟩), .int .i64 (x : Int)] wx (Exact wx (.tuple #[.int .i64 r21, .int .i64 r22]))) := e2
          clear hdr
          by_cases he : r12 = r22
          · subst he
            by_cases hv : r11 = r21
            · subst hv
              by_cases hb : b1 = b2
              · subst hb
                go_wp2_with fail
                refine e1.mono ?_
                rintro e _ ⟨rfl, rfl⟩
                go_wp2_with fail
                refine (e2.out _ HW2.out).mono ?_
                rintro e _ ⟨rfl, rfl⟩
                go_wp2_with fail
                go_quiet (fail)
                go_wp2_with fail
                exact ⟨⟨x + 1, by omega, by go_num, fun j hj => by
                  by_cases e : j = x
                  · rw [e, hrt.out]; simp
                  · exact hf.out j (by omega), HDR.out.more _⟩, by simp [intOf]; omega⟩
              · rw [hno.out (by rw [hrt.out]; simp [hb])] at hR
                have hb2 : (b1 != b2) = true := by simpa using hb
                have hb3 : (b1 == b2) = false := by simpa using hb
                clear hb
                go_wp2_with fail
                refine e1.mono ?_
                rintro e _ ⟨rfl, rfl⟩
                go_wp2_with fail
                refine (e2.out _ HW2.out).mono ?_
                rintro e _ ⟨rfl, rfl⟩
                go_wp2_with fail
                go_quiet (fail)
                go_wp2_with fail
                exact hR.out _ _ ⟨rfl, D0.out.trans (HDR.out.more _)⟩
            · rw [hno.out (by rw [hrt.out]; simp [hv])] at hR
              have hv2 : (r11 != r21) = true := by simpa using hv
              clear hv
              go_wp2_with fail
              refine e1.mono ?_
              rintro e _ ⟨rfl, rfl⟩
              go_wp2_with fail
              refine (e2.out _ HW2.out).mono ?_
              rintro e _ ⟨rfl, rfl⟩
              go_wp2_with fail
              go_quiet (fail)
              go_wp2_with fail
              exact hR.out _ _ ⟨rfl, D0.out.trans (HDR.out.more _)⟩
          · rw [hno.out (by rw [hrt.out]; simp [he])] at hR
            have he2 : (r12 != r22) = true := by simpa using he
            clear he
            go_wp2_with fail
            refine e1.mono ?_
            rintro e _ ⟨rfl, rfl⟩
            go_wp2_with fail
            refine (e2.out _ HW2.out).mono ?_
            rintro e _ ⟨rfl, rfl⟩
            go_wp2_with fail
            go_quiet (fail)
            go_wp2_with fail
            exact hR.out _ _ ⟨rfl, D0.out.trans (HDR.out.more _)⟩
        · have HSA : Hid (P.rsame Q = true) := by
            show _ = _
            rw [hrs.out, HK.out, allN_iff.2 (show ∀ k, k < P.n * 16 → P.rat Q k = true from fun k hk => hf.out k (by omega))]; rfl
          rw [HSA.out] at hR
          clear hdr HSA
          go_wp2_with fail
          exact hR.out _ _ ⟨rfl, D0.out.trans HDR.out⟩
end Go.Proofs.Ytngmiacekcmidaa
