/- Contracts of Same on both sides: equal pools. -/
import Derived.Test.YtcdeikbehpepjaaBSame
import Derived.Test.YtcdeikbehpepjaaRBlockE
namespace Go.Proofs.Ytcdeikbehpepjaa
open Go.RowKit
set_option maxHeartbeats 3200000
set_option maxRecDepth 100000
set_option linter.unusedVariables false

def Pl.same (P Q : Pl) : Bool := allN (fun i => (P.pg i).same (Q.pg i)) P.n
theorem same_rep (w : World) (p b : Nat) (P : Pl) (h : PRep w p b P) (p2 b2 : Nat) (Q : Pl) (h2 : PRep w p2 b2 Q) (hn : Q.n = P.n) :
    Calls Try.prog 35 #[.pointer (some ⟨p, 0, none⟩), .pointer (some ⟨p2, 0, none⟩)] w fun e w' => e = .returned (.bool (P.same Q)) ∧ Drew w w' := by
  refine calls_abs fun R hR => ?_
  obtain ⟨cap, z0, _⟩ := h.facts
  obtain ⟨cap2, y0, _⟩ := h2.facts
  rw [hn] at y0
  have h24 := h.n24
  have H := Lib.hid h
  have H2 := Lib.hid h2
  have HN := Lib.hid hn
  have hn1 := fun n => none_rep (w.drewN n) p b P (h.drewN n)
  have hn2 := fun n => none_rep (w.drewN n) p2 b2 Q (h2.drewN n)
  clear h h2 hn
  go_enter Try.func35, Try.ntmps35
  go_wp2_with fail
  go_quiet (first | (go_at_call 77; first | (with_reducible exact quiet_exact (hn1 _)) | (with_reducible exact quiet_exact (hn2 _))))
  clear hn1 hn2
  go_wp2_with fail
  go_loopw [5, 36] (fun _ v wr => ∃ k : Nat, k ≤ P.n ∧ v = .int .i64 k ∧ Hid (∀ j, j < k → (P.pg j).same (Q.pg j) = true) ∧ Drew w wr) (fun _ v _ => P.n - (intOf v).toNat)
  case atStart => exact ⟨0, by omega, rfl, fun j hj => by omega, Drew.of _ _⟩
  case round =>
    obtain ⟨k, hk, rfl, hf, hdr⟩ := hrel
    have HDR := Lib.hid hdr
    have z0 := hdr.cell z0
    have y0 := hdr.cell y0
    by_cases hlt : k < P.n
    · have hs := fun n => same_of (wr.drewN n) b (k * 25) (P.pg k) (((H.out.drewTo hdr).pg k hlt).drewN n) b2 (k * 25) (Q.pg k) (((H2.out.drewTo hdr).pg k (by rw [HN.out]; exact hlt)).drewN n) (H.out.ok k hlt) (H2.out.ok k (by rw [HN.out]; exact hlt))
      have hs2 : ∀ n, Calls Try.prog 78 #[.pointer (some ⟨b, k * 25, none⟩), .pointer (some ⟨b2, k * 25, none⟩)] (wr.drewN n) fun e w'' => e = .returned (.bool ((P.pg k).same (Q.pg k))) ∧ ∃ m, w'' = wr.drewN m := fun n => Calls.quiet_of (hs n)
      clear hs
      cases hsame : (P.pg k).same (Q.pg k) with
      | true =>
        rw [hsame] at hs2
        have HSA := Lib.hid hsame
        clear hsame hdr
        go_wp2_with fail
        go_quiet (first | (go_at_call 78; with_reducible exact hs2 _))
        go_wp2_with fail
        exact ⟨⟨k + 1, by omega, by go_num, fun j hj => by
          by_cases e : j = k
          · rw [e]; exact HSA.out
          · exact hf.out j (by omega), HDR.out.more _⟩, by simp [intOf]; omega⟩
      | false =>
        rw [hsame] at hs2
        have HSA : Hid (P.same Q = false) := allN_no hlt hsame
        rw [HSA.out] at hR
        clear hsame hdr HSA
        go_wp2_with fail
        go_quiet (first | (go_at_call 78; with_reducible exact hs2 _))
        go_wp2_with fail
        exact hR.out _ _ ⟨rfl, HDR.out.more _⟩
    · have hkn : k = P.n := by omega
      have HSA : Hid (P.same Q = true) := allN_iff.2 (by rw [← hkn]; exact hf.out)
      rw [HSA.out] at hR
      clear hdr HSA
      go_wp2_with fail
      exact hR.out _ _ ⟨rfl, HDR.out⟩

/-- What the document compares at an address. -/
def Pl.rat (P Q : Pl) (A : Nat) : Bool := decide (P.cell (A : Int) = Q.cell (A : Int)) && ((P.pg (A / 16)).live (A % 16) == (Q.pg (A / 16)).live (A % 16))
def Pl.rsame (P Q : Pl) : Bool := allN (fun i => (P.pg i).cls == (Q.pg i).cls) P.n && allN (P.rat Q) (P.n * 16)
end Go.Proofs.Ytcdeikbehpepjaa
