/- Contracts of package block's pools over the model Pl: pair. -/
import Derived.Test.YtngmiacekcmidaaBlockG
import Derived.Test.YtngmiacekcmidaaBPair
namespace Go.Proofs.Ytngmiacekcmidaa
open Go.RowKit
set_option maxHeartbeats 6400000
set_option maxRecDepth 100000
set_option linter.unusedVariables false

theorem PRep.drewTo {w w' : World} {p b : Nat} {P : Pl} (h : PRep w p b P) (k : Drew w w') : PRep w' p b P := h.only (k.only []) (by simp) (by simp)
def pairV (P : Pl) : Value := match P.pair with | none => .tuple #[.int .i64 0, .int .i64 0, .bool false] | some (i, j) => .tuple #[.int .i64 (i : Int), .int .i64 (j : Int), .bool true]

theorem pair_rep (w : World) (p b : Nat) (P : Pl) (h : PRep w p b P) :
    Calls Try.prog 58 #[.pointer (some ⟨p, 0, none⟩)] w fun e w' => e = .returned (pairV P) ∧ ∃ n, w' = w.drewN n := by
  refine calls_abs fun R hR => ?_
  have h24 := h.n24
  obtain ⟨cap, z0, zf, zfb, _⟩ := h.facts
  have H := Lib.hid h
  clear h
  go_enter Try.func58, Try.ntmps58
  go_wp2_with fail
  go_loopw [8] (fun s8 wr => ∃ c : Nat, c ≤ 3 ∧ s8 = .int .i64 c ∧ Hid (∀ d : Nat, d < c → P.pairC d = none) ∧ Drew w wr) (fun s8 _ => 3 - (intOf s8).toNat)
  case atStart => exact ⟨0, by omega, rfl, fun d hd => by omega, Drew.refl _⟩
  case round =>
    obtain ⟨c, hc3, rfl, hno, hd0⟩ := hrel
    obtain ⟨wo, rfl⟩ : ∃ wo : World, wo = wr := ⟨_, rfl⟩
    have HP0 := Lib.hid (H.out.drewTo hd0)
    by_cases hlt : c < 3
    · obtain ⟨capo, z0, zf, zfb, _⟩ := HP0.out.facts
      have hC : IsC (c : Int) := by unfold IsC; omega
      go_wp2_with fail
      go_loopw [2, 16] (fun s2 s16 wr => ∃ (i : Nat) (fr : Option Nat), i ≤ P.n ∧ s16 = .int .i64 i ∧ Hid (P.frm c i = fr) ∧ IsO s2 fr ∧ Drew w wr) (fun _ s16 _ => P.n - (intOf s16).toNat)
      case atStart => exact ⟨0, none, by omega, rfl, rfl, rfl, hd0⟩
      case round =>
        clear z0 zf zfb hd0 HP0
        obtain ⟨i, fr, hi, rfl, hfr, ho, hd1⟩ := hrel
        have HP1 := Lib.hid (H.out.drewTo hd1)
        obtain ⟨cap1, z0, zf, zfb, _⟩ := HP1.out.facts
        by_cases hlt2 : i < P.n
        · have hq1 := fun n => partly_of (wr.drewN n) b (i * 25) (P.pg i) ((HP1.out.pg i hlt2).drewN n) c hC
          have hq2 := fun n => count_of (wr.drewN n) b (i * 25) (P.pg i) ((HP1.out.pg i hlt2).drewN n)
          cases hp : (P.pg i).partly c with
          | false =>
            rw [hp] at hq1
            have hN := Lib.hid (frm_next hfr.out hp)
            clear hp
            go_wp2_with fail
            go_quiet (first | (go_at_call 51; with_reducible exact quiet_exact (hq1 _)))
            go_wp2_with fail
            exact ⟨⟨i + 1, fr, by omega, by go_num, hN, ho, hd1.more _⟩, by simp [intOf]; omega⟩
          | true =>
            rw [hp] at hq1
            have HP := Lib.hid hp
            clear hp
            cases fr with
            | none =>
              obtain rfl : _ = Value.int .i64 (-1) := ho
              have hN := Lib.hid (frm_first hfr.out HP.out)
              go_wp2_with fail
              go_quiet (first | (go_at_call 51; with_reducible exact quiet_exact (hq1 _)))
              go_wp2_with fail
              exact ⟨⟨i + 1, some i, by omega, by go_num, hN, rfl, hd1.more _⟩, by simp [intOf]; omega⟩
            | some f =>
              obtain rfl : _ = Value.int .i64 (f : Int) := ho
              have hf := (Pl.frm_some hfr.out).1
              have hq3 := fun n => count_of (wr.drewN n) b (f * 25) (P.pg f) ((HP1.out.pg f (by omega)).drewN n)
              have hf0 : decide ((f : Int) < 0) = false := by simp
              have c8 := (P.pg i).count_le
              have d8 := (P.pg f).count_le
              by_cases hle : (P.pg i).count ≤ (P.pg f).count
              · have hN := Lib.hid (frm_less hfr.out HP.out hle)
                go_wp2_with fail
                go_quiet (first | (go_at_call 51; with_reducible exact quiet_exact (hq1 _)) | (go_at_call 63; first | (with_reducible exact quiet_exact (hq2 _)) | (with_reducible exact quiet_exact (hq3 _))))
                go_wp2_with fail
                exact ⟨⟨i + 1, some i, by omega, by go_num, hN, rfl, hd1.more _⟩, by simp [intOf]; omega⟩
              · have hN := Lib.hid (frm_more hfr.out hle)
                have hle2 : decide ((P.pg i).count ≤ (P.pg f).count) = false := by simpa using hle
                clear hle
                go_wp2_with fail
                go_quiet (first | (go_at_call 51; with_reducible exact quiet_exact (hq1 _)) | (go_at_call 63; first | (with_reducible exact quiet_exact (hq2 _)) | (with_reducible exact quiet_exact (hq3 _))))
                go_wp2_with fail
                exact ⟨⟨i + 1, some f, by omega, by go_num, hN, rfl, hd1.more _⟩, by simp [intOf]; omega⟩
        · obtain rfl : i = P.n := by omega
          obtain ⟨wp, rfl⟩ : ∃ wp : World, wp = wr := ⟨_, rfl⟩
          go_wp2_with fail
          go_loopw [3, 55] (fun s3 s55 wr => ∃ (j : Nat) (to : Option Nat), j ≤ P.n ∧ s55 = .int .i64 j ∧ Hid (P.too c fr j = to) ∧ IsO s3 to ∧ Drew w wr) (fun _ s55 _ => P.n - (intOf s55).toNat)
          case atStart => exact ⟨0, none, by omega, rfl, rfl, rfl, hd1⟩
          case round =>
            clear z0 zf zfb HP1 hd1
            obtain ⟨j, to, hj, rfl, hto, ho2, hd2⟩ := hrel
            have HP1 := Lib.hid (H.out.drewTo hd2)
            obtain ⟨cap1, z0, zf, zfb, _⟩ := HP1.out.facts
            by_cases hlt3 : j < P.n
            · have hq1 := fun n => partly_of (wr.drewN n) b (j * 25) (P.pg j) ((HP1.out.pg j hlt3).drewN n) c hC
              have hq2 := fun n => count_of (wr.drewN n) b (j * 25) (P.pg j) ((HP1.out.pg j hlt3).drewN n)
              cases fr with
              | none =>
                obtain rfl : _ = Value.int .i64 (-1) := ho
                have hp := Pl.frm_none hfr.out j hlt3
                have hN := Lib.hid (too_next hto.out hp)
                have hb : ((j : Int) != -1) = true := by rw [bne_iff_ne]; omega
                rw [hp] at hq1
                clear hp
                go_wp2_with fail
                go_quiet (first | (go_at_call 51; with_reducible exact quiet_exact (hq1 _)))
                go_wp2_with fail
                exact ⟨⟨j + 1, to, by omega, by go_num, hN, ho2, hd2.more _⟩, by simp [intOf]; omega⟩
              | some f =>
                obtain rfl : _ = Value.int .i64 (f : Int) := ho
                by_cases hjf : j = f
                · have hN := Lib.hid (too_same hto.out (by rw [hjf]))
                  have hb : ((j : Int) != (f : Int)) = false := by rw [bne_eq_false_iff_eq]; omega
                  clear hjf
                  go_wp2_with fail
                  go_quiet (fail)
                  go_wp2_with fail
                  exact ⟨⟨j + 1, to, by omega, by go_num, hN, ho2, hd2.more _⟩, by simp [intOf]; omega⟩
                · have hne : some j ≠ some f := by simpa using hjf
                  have HNE := Lib.hid hne
                  have hb : ((j : Int) != (f : Int)) = true := by rw [bne_iff_ne]; omega
                  clear hjf hne
                  cases hp : (P.pg j).partly c with
                  | false =>
                    rw [hp] at hq1
                    have hN := Lib.hid (too_next hto.out hp)
                    clear hp
                    go_wp2_with fail
                    go_quiet (first | (go_at_call 51; with_reducible exact quiet_exact (hq1 _)))
                    go_wp2_with fail
                    exact ⟨⟨j + 1, to, by omega, by go_num, hN, ho2, hd2.more _⟩, by simp [intOf]; omega⟩
                  | true =>
                    rw [hp] at hq1
                    have HP := Lib.hid hp
                    clear hp
                    cases to with
                    | none =>
                      obtain rfl : _ = Value.int .i64 (-1) := ho2
                      have hN := Lib.hid (too_first hto.out HNE.out HP.out)
                      go_wp2_with fail
                      go_quiet (first | (go_at_call 51; with_reducible exact quiet_exact (hq1 _)))
                      go_wp2_with fail
                      exact ⟨⟨j + 1, some j, by omega, by go_num, hN, rfl, hd2.more _⟩, by simp [intOf]; omega⟩
                    | some t =>
                      obtain rfl : _ = Value.int .i64 (t : Int) := ho2
                      have ht := (Pl.too_some hto.out).1
                      have hq3 := fun n => count_of (wr.drewN n) b (t * 25) (P.pg t) ((HP1.out.pg t (by omega)).drewN n)
                      have hf0 : decide ((t : Int) < 0) = false := by simp
                      have c8 := (P.pg j).count_le
                      have d8 := (P.pg t).count_le
                      by_cases hle : (P.pg t).count < (P.pg j).count
                      · have hN := Lib.hid (too_more hto.out HNE.out HP.out hle)
                        go_wp2_with fail
                        go_quiet (first | (go_at_call 51; with_reducible exact quiet_exact (hq1 _)) | (go_at_call 63; first | (with_reducible exact quiet_exact (hq2 _)) | (with_reducible exact quiet_exact (hq3 _))))
                        go_wp2_with fail
                        exact ⟨⟨j + 1, some j, by omega, by go_num, hN, rfl, hd2.more _⟩, by simp [intOf]; omega⟩
                      · have hN := Lib.hid (too_less hto.out hle)
                        have hle2 : decide ((P.pg t).count < (P.pg j).count) = false := by simpa using hle
                        clear hle
                        go_wp2_with fail
                        go_quiet (first | (go_at_call 51; with_reducible exact quiet_exact (hq1 _)) | (go_at_call 63; first | (with_reducible exact quiet_exact (hq2 _)) | (with_reducible exact quiet_exact (hq3 _))))
                        go_wp2_with fail
                        exact ⟨⟨j + 1, some t, by omega, by go_num, hN, rfl, hd2.more _⟩, by simp [intOf]; omega⟩
            · obtain rfl : j = P.n := by omega
              cases to with
              | none =>
                obtain rfl : _ = Value.int .i64 (-1) := ho2
                have hN : Hid (∀ d : Nat, d < c + 1 → P.pairC d = none) := by
                  intro d hd
                  by_cases e : d = c
                  · subst e
                    unfold Pl.pairC
                    rw [hfr.out, hto.out]
                    cases fr <;> rfl
                  · exact hno.out d (by omega)
                go_wp2_with fail
                exact ⟨⟨c + 1, by omega, by go_num, hN, hd2⟩, by simp [intOf]; omega⟩
              | some t =>
                obtain rfl : _ = Value.int .i64 (t : Int) := ho2
                cases fr with
                | none => exact absurd (Pl.too_some hto.out).2.2 (by rw [Pl.frm_none hfr.out t (Pl.too_some hto.out).1]; simp)
                | some f =>
                  obtain rfl : _ = Value.int .i64 (f : Int) := ho
                  have hN : Hid (pairV P = .tuple #[.int .i64 (f : Int), .int .i64 (t : Int), .bool true]) := by
                    have e1 : P.pairC c = some (f, t) := by unfold Pl.pairC; rw [hfr.out, hto.out]
                    have e2 : P.pair = some (f, t) := by
                      unfold Pl.pair
                      obtain rfl | rfl | rfl : c = 0 ∨ c = 1 ∨ c = 2 := by omega
                      · rw [show P.pairC 0 = some (f, t) from e1]; rfl
                      · rw [show P.pairC 0 = none from hno.out 0 (by omega), show P.pairC 1 = some (f, t) from e1]; rfl
                      · rw [show P.pairC 0 = none from hno.out 0 (by omega), show P.pairC 1 = none from hno.out 1 (by omega), show P.pairC 2 = some (f, t) from e1]; rfl
                    show _ = _
                    unfold pairV
                    rw [e2]
                  go_wp2_with fail
                  go_ret3
                  exact hR.out _ _ ⟨by rw [hN.out]; rfl, hd2.ex⟩
    · obtain rfl : c = 3 := by omega
      have hN : Hid (pairV P = .tuple #[.int .i64 0, .int .i64 0, .bool false]) := by
        show _ = _
        unfold pairV Pl.pair
        rw [show P.pairC 0 = none from hno.out 0 (by omega), show P.pairC 1 = none from hno.out 1 (by omega), show P.pairC 2 = none from hno.out 2 (by omega)]
        rfl
      go_wp2_with fail
      go_ret3
      exact hR.out _ _ ⟨by rw [hN.out]; rfl, hd0.ex⟩
end Go.Proofs.Ytngmiacekcmidaa
