/- Contracts of the reference's memories: Users, used, Parent. -/
import Derived.Test.YtbjmgbbggbbidaaRScope
namespace Go.Proofs.Ytbjmgbbggbbidaa
open Go.RowKit Go.Maps
set_option maxHeartbeats 1600000
set_option maxRecDepth 100000
set_option linter.unusedVariables false
section
variable {w w' : World} {L L' : Nat → Option Rb} {q : Nat} {M : Sc} {X : RX}
theorem count_snoc {l : List Int} {k : Nat} (hk : k < l.length) (a : Int) : (l.take (k + 1)).count a = (l.take k).count a + if gI l k = a then 1 else 0 := by
  rw [List.take_succ_eq_append_getElem hk, List.count_append]
  have : gI l k = l[k] := by unfold gI; rw [List.getElem?_eq_getElem hk]; rfl
  rw [this, List.count_singleton]
  by_cases e : l[k] = a <;> simp [e]
theorem rusers_nil (w : World) (a : Int) : Calls Try.prog 67 #[.pointer none, .int .i64 a] w (Exact w (.tuple #[.int .i64 0, .int .i64 1])) := by
  refine calls_abs fun R hR => ?_
  go_enter Try.func67, Try.ntmps67
  go_wp2_with fail
  refine (risArea_nil _ _).mono ?_
  rintro e _ ⟨rfl, rfl⟩
  go_wp2_with fail
  exact hR.out _ _ ⟨rfl, rfl⟩
theorem rusers_rep (w : World) (h : RRep w L q M X) (hok : M.OkS) (a : Int) : Calls Try.prog 67 #[.pointer (some ⟨q, 0, none⟩), .int .i64 a] w (Exact w (.tuple #[.int .i64 (M.users a).1, .int .i64 (M.users a).2])) := by
  refine calls_abs fun R hR => ?_
  have hA := risArea_rep w h hok a
  cases hT : M.isA a
  · have hr : Hid (M.users a = (0, 1)) := by show _ = _; unfold Sc.users; rw [hT]; rfl
    rw [hT] at hA
    clear hT hok
    go_enter Try.func67, Try.ntmps67
    go_wp2_with fail
    refine hA.mono ?_
    rintro e _ ⟨rfl, rfl⟩
    go_wp2_with fail
    exact hR.out _ _ ⟨by rw [hr.out] <;> rfl, rfl⟩
  · have hr : Hid (M.users a = ((M.usersN a : Int), 0)) := by show _ = _; unfold Sc.users; rw [hT]; rfl
    rw [hT] at hA
    have m1 := h.cells.2.1
    have HST : Hid (∀ t, t < 5 → ∃ g cap, w.cell? ⟨X.sg, t, none⟩ = some (.slice (some ⟨g, 0, none⟩) (M.stk t).length cap) ∧ ∀ i, i < (M.stk t).length → w.cell? ⟨g, i, none⟩ = some (.int .i64 (gI (M.stk t) i))) := fun t ht => by
      obtain ⟨g, cap, _, h1, _, _, h2⟩ := h.stk hok ht
      exact ⟨g, cap, h1, h2⟩
    have HLN : Hid (∀ t, t < 5 → (M.stk t).length ≤ 8) := fun t ht => (hok.s1 t ht).2
    have HCN : Hid (∀ k, k ≤ 5 → M.cntN a k ≤ 8 * k) := fun k hk => cntN_le (fun t ht => (hok.s1 t ht).2) a hk
    clear hT hok h
    by_cases h2 : 2 ≤ a
    · have hu : Hid (M.usersN a = M.cntN a 5) := by show _ = _; unfold Sc.usersN; rw [if_pos h2]
      go_enter Try.func67, Try.ntmps67
      go_wp2_with fail
      refine hA.mono ?_
      rintro e _ ⟨rfl, rfl⟩
      go_wp2_with fail
      go_loop [6, 7, 8] (fun nv tv _ => ∃ t : Nat, t ≤ 5 ∧ tv = .int .i64 t ∧ nv = .int .i64 (M.cntN a t)) (fun _ tv _ => 5 - (intOf tv).toNat)
      case atStart => exact ⟨0, by omega, rfl, rfl⟩
      case round =>
        obtain ⟨t, ht, rfl, rfl⟩ := hrel
        by_cases hlt : t < 5
        · obtain ⟨g, cap, k1, k2⟩ := HST.out t hlt
          have hl8 := HLN.out t hlt
          have hcn := HCN.out t (by omega)
          have HK2 := Lib.hid k2
          have hcs : Hid (M.cntN a (t + 1) = M.cntN a t + (M.stk t).count a) := rfl
          have b1 : (0 : Int) ≤ t := by omega
          have b2 : (t : Int) < 5 := by omega
          obtain ⟨c, hc⟩ : ∃ c, c = M.cntN a t := ⟨_, rfl⟩
          rw [← hc] at hcs hcn ⊢
          obtain ⟨len, hlen⟩ : ∃ n, n = (M.stk t).length := ⟨_, rfl⟩
          rw [← hlen] at k1 hl8
          have HLEN := Lib.hid hlen
          clear k2 hc hlen
          go_wp2_with fail
          go_loop [6, 8] (fun nv iv => ∃ i : Nat, i ≤ len ∧ iv = .int .i64 i ∧ ∃ d : Nat, d ≤ i ∧ nv = .int .i64 ((c + d : Nat) : Int) ∧ Hid (d = ((M.stk t).take i).count a)) (fun _ iv => len - (intOf iv).toNat)
          case atStart => exact ⟨0, by omega, rfl, 0, by omega, rfl, by show 0 = _; simp⟩
          case round =>
            obtain ⟨i, hi, rfl, d, hd, rfl, hdd⟩ := hrel
            by_cases hlt2 : i < len
            · have hcell := HK2.out i (by have := HLEN.out; omega)
              obtain ⟨x, hx⟩ : ∃ x, x = gI (M.stk t) i := ⟨_, rfl⟩
              rw [← hx] at hcell
              have hs : Hid (((M.stk t).take (i + 1)).count a = d + if x = a then 1 else 0) := by show _ = _; rw [count_snoc (by have := HLEN.out; omega), ← hdd.out, ← hx]
              clear hx
              cases he : (x == a)
              · have hne : Hid (x ≠ a) := by intro e; simp [e] at he
                go_wp2_with fail
                go_round
                case rel => exact ⟨i + 1, by omega, by go_num, d, by omega, rfl, by show d = _; rw [hs.out, if_neg hne.out]; rfl⟩
                case measure => simp [intOf]; omega
              · have hne : Hid (x = a) := by show _ = _; simpa using he
                obtain ⟨cd, hcd⟩ : ∃ z, z = c + d := ⟨_, rfl⟩
                rw [← hcd]
                have HCD := Lib.hid hcd
                have hcb : cd ≤ 100 := by omega
                clear hcd
                go_wp2_with fail
                go_round
                case rel => exact ⟨i + 1, by omega, by go_num, d + 1, by omega, by rw [← Nat.add_assoc, ← HCD.out]; go_num, by show d + 1 = _; rw [hs.out, if_pos hne.out]⟩
                case measure => simp [intOf]; omega
            · obtain rfl : i = len := by omega
              have he : Hid (c + d = M.cntN a (t + 1)) := by show _ = _; rw [hcs.out, hdd.out, HLEN.out, List.take_length]
              obtain ⟨cd, hcd⟩ : ∃ z, z = c + d := ⟨_, rfl⟩
              rw [← hcd] at he ⊢
              clear hcd
              go_wp2_with fail
              go_round
              case rel => exact ⟨t + 1, by omega, by go_num, by rw [he.out]⟩
              case measure => simp [intOf]; omega
        · obtain rfl : t = 5 := by omega
          go_wp2_with fail
          exact hR.out _ _ ⟨by rw [hr.out, hu.out] <;> rfl, rfl⟩
    · have hu : Hid (M.usersN a = 0) := by show _ = _; unfold Sc.usersN; rw [if_neg h2]
      go_enter Try.func67, Try.ntmps67
      go_wp2_with fail
      refine hA.mono ?_
      rintro e _ ⟨rfl, rfl⟩
      go_wp2_with fail
      go_loop [6, 7, 8] (fun nv tv _ => tv = .int .i64 0 ∧ nv = .int .i64 0) (fun _ tv _ => 0)
      case atStart => exact ⟨rfl, rfl⟩
      case round =>
        obtain ⟨rfl, rfl⟩ := hrel
        go_wp2_with fail
        exact hR.out _ _ ⟨by rw [hr.out, hu.out] <;> rfl, rfl⟩
theorem rused_rep (w : World) (h : RRep w L q M X) (hok : M.OkS) (a : Int) (hA : M.isA a = true) : Calls Try.prog 64 #[.pointer (some ⟨q, 0, none⟩), .int .i64 a] w (Exact w (.bool (M.used a))) := by
  refine calls_abs fun R hR => ?_
  have hu := rusers_rep w h hok a
  have hr : M.users a = ((M.usersN a : Int), 0) := by unfold Sc.users; rw [hA]; rfl
  have hd : Hid (M.used a = decide (0 < M.usersN a)) := rfl
  rw [hr] at hu
  generalize M.usersN a = n at *
  clear hr h hok
  go_enter Try.func64, Try.ntmps64
  go_wp2_with fail
  refine hu.mono ?_
  rintro e _ ⟨rfl, rfl⟩
  go_wp2_with fail
  refine hR.out _ _ ⟨?_, rfl⟩
  rw [hd.out]
  simp
end
end Go.Proofs.Ytbjmgbbggbbidaa
