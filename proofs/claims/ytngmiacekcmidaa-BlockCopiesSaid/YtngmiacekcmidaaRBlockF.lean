/- Contracts of the reference's pools over the model Pl: pair. -/
import Derived.Test.YtngmiacekcmidaaRBlockE
import Derived.Test.YtngmiacekcmidaaBPair
namespace Go.Proofs.Ytngmiacekcmidaa
open Go.RowKit
set_option maxHeartbeats 3200000
set_option maxRecDepth 100000
set_option linter.unusedVariables false

def rpairV (fr to : Option Nat) : Value := .tuple #[.int .i64 (oInt fr), .int .i64 (oInt to), .bool to.isSome]
theorem rpair_of (w : World) (q k c l : Nat) (P : Pl) (h : RRep w q k c l P) (hok : P.ok) (cl : Int) (hC : IsC cl) :
    Calls Try.prog 68 #[.pointer (some ⟨q, 0, none⟩), .int .i64 cl] w (Exact w (rpairV (P.frm cl P.n) (P.too cl (P.frm cl P.n) P.n))) := by
  refine calls_abs fun R hR => ?_
  obtain ⟨c1, c2, c3, z0, z1, z2, _⟩ := h.facts
  have h24 := h.n24
  have H := Lib.hid h
  have HOK := Lib.hid hok
  clear h hok
  go_enter Try.func68, Try.ntmps68
  go_wp2_with fail
  go_loop [7, 8] (fun s2 s16 => ∃ (i : Nat) (fr : Option Nat), i ≤ P.n ∧ s16 = .int .i64 i ∧ Hid (P.frm cl i = fr) ∧ IsO s2 fr) (fun _ s16 => P.n - (intOf s16).toNat)
  case atStart => exact ⟨0, none, by omega, rfl, rfl, rfl⟩
  case round =>
    obtain ⟨i, fr, hi, rfl, hfr, ho⟩ := hrel
    by_cases hlt2 : i < P.n
    · have hq1 := rpartly_of w q k c l P H.out i hlt2 (HOK.out i hlt2) cl hC
      have hq2 := rcount_of w q k c l P H.out i hlt2 (HOK.out i hlt2).w
      cases hp : (P.pg i).partly cl with
      | false =>
        rw [hp] at hq1
        have hN := Lib.hid (frm_next hfr.out hp)
        clear hp
        go_wp2_with fail
        refine hq1.mono ?_
        rintro e _ ⟨rfl, rfl⟩
        go_wp2_with fail
        go_round
        case rel => exact ⟨i + 1, fr, by omega, by go_num, hN, ho⟩
        case measure => simp [intOf]; omega
      | true =>
        rw [hp] at hq1
        have HP := Lib.hid hp
        clear hp
        cases fr with
        | none =>
          obtain rfl : _ = Value.int .i64 (-1) := ho
          have hN := Lib.hid (frm_first hfr.out HP.out)
          go_wp2_with fail
          refine hq1.mono ?_
          rintro e _ ⟨rfl, rfl⟩
          go_wp2_with fail
          go_round
          case rel => exact ⟨i + 1, some i, by omega, by go_num, hN, rfl⟩
          case measure => simp [intOf]; omega
        | some f =>
          obtain rfl : _ = Value.int .i64 (f : Int) := ho
          have hf := (Pl.frm_some hfr.out).1
          have hq3 := rcount_of w q k c l P H.out f (by omega) (HOK.out f (by omega)).w
          have hf0 : decide ((f : Int) < 0) = false := by simp
          have c8 := (P.pg i).count_le
          have d8 := (P.pg f).count_le
          by_cases hle : (P.pg i).count ≤ (P.pg f).count
          · have hN := Lib.hid (frm_less hfr.out HP.out hle)
            go_wp2_with fail
            refine hq1.mono ?_
            rintro e _ ⟨rfl, rfl⟩
            go_wp2_with fail
            refine hq2.mono ?_
            rintro e _ ⟨rfl, rfl⟩
            go_wp2_with fail
            refine hq3.mono ?_
            rintro e _ ⟨rfl, rfl⟩
            go_wp2_with fail
            go_round
            case rel => exact ⟨i + 1, some i, by omega, by go_num, hN, rfl⟩
            case measure => simp [intOf]; omega
          · have hN := Lib.hid (frm_more hfr.out hle)
            have hle2 : decide ((P.pg i).count ≤ (P.pg f).count) = false := by simpa using hle
            clear hle
            go_wp2_with fail
            refine hq1.mono ?_
            rintro e _ ⟨rfl, rfl⟩
            go_wp2_with fail
            refine hq2.mono ?_
            rintro e _ ⟨rfl, rfl⟩
            go_wp2_with fail
            refine hq3.mono ?_
            rintro e _ ⟨rfl, rfl⟩
            go_wp2_with fail
            go_round
            case rel => exact ⟨i + 1, some f, by omega, by go_num, hN, rfl⟩
            case measure => simp [intOf]; omega
    · obtain rfl : i = P.n := by omega
      rw [hfr.out] at hR
      go_wp2_with fail
      go_loop [9, 10] (fun s3 s55 => ∃ (j : Nat) (to : Option Nat), j ≤ P.n ∧ s55 = .int .i64 j ∧ Hid (P.too cl fr j = to) ∧ IsO s3 to) (fun _ s55 => P.n - (intOf s55).toNat)
      case atStart => exact ⟨0, none, by omega, rfl, rfl, rfl⟩
      case round =>
        clear hlt2
        obtain ⟨j, to, hj, rfl, hto, ho2⟩ := hrel
        by_cases hlt3 : j < P.n
        · have hq1 := rpartly_of w q k c l P H.out j hlt3 (HOK.out j hlt3) cl hC
          have hq2 := rcount_of w q k c l P H.out j hlt3 (HOK.out j hlt3).w
          cases fr with
          | none =>
            obtain rfl : _ = Value.int .i64 (-1) := ho
            have hp := Pl.frm_none hfr.out j hlt3
            have hN := Lib.hid (too_next hto.out hp)
            have hb : ((j : Int) != -1) = true := by rw [bne_iff_ne]; omega
            rw [hp] at hq1
            clear hp
            go_wp2_with fail
            refine hq1.mono ?_
            rintro e _ ⟨rfl, rfl⟩
            go_wp2_with fail
            go_round
            case rel => exact ⟨j + 1, to, by omega, by go_num, hN, ho2⟩
            case measure => simp [intOf]; omega
          | some f =>
            obtain rfl : _ = Value.int .i64 (f : Int) := ho
            by_cases hjf : j = f
            · have hN := Lib.hid (too_same hto.out (by rw [hjf]))
              have hb : ((j : Int) != (f : Int)) = false := by rw [bne_eq_false_iff_eq]; omega
              clear hjf
              go_wp2_with fail
              go_round
              case rel => exact ⟨j + 1, to, by omega, by go_num, hN, ho2⟩
              case measure => simp [intOf]; omega
            · have hne : some j ≠ some f := by simpa using hjf
              have HNE := Lib.hid hne
              have hb : ((j : Int) != (f : Int)) = true := by rw [bne_iff_ne]; omega
              clear hjf hne
              cases hp : (P.pg j).partly cl with
              | false =>
                rw [hp] at hq1
                have hN := Lib.hid (too_next hto.out hp)
                clear hp
                go_wp2_with fail
                refine hq1.mono ?_
                rintro e _ ⟨rfl, rfl⟩
                go_wp2_with fail
                go_round
                case rel => exact ⟨j + 1, to, by omega, by go_num, hN, ho2⟩
                case measure => simp [intOf]; omega
              | true =>
                rw [hp] at hq1
                have HP := Lib.hid hp
                clear hp
                cases to with
                | none =>
                  obtain rfl : _ = Value.int .i64 (-1) := ho2
                  have hN := Lib.hid (too_first hto.out HNE.out HP.out)
                  go_wp2_with fail
                  refine hq1.mono ?_
                  rintro e _ ⟨rfl, rfl⟩
                  go_wp2_with fail
                  go_round
                  case rel => exact ⟨j + 1, some j, by omega, by go_num, hN, rfl⟩
                  case measure => simp [intOf]; omega
                | some t =>
                  obtain rfl : _ = Value.int .i64 (t : Int) := ho2
                  have ht := (Pl.too_some hto.out).1
                  have hq3 := rcount_of w q k c l P H.out t (by omega) (HOK.out t (by omega)).w
                  have hf0 : decide ((t : Int) < 0) = false := by simp
                  have c8 := (P.pg j).count_le
                  have d8 := (P.pg t).count_le
                  by_cases hle : (P.pg t).count < (P.pg j).count
                  · have hN := Lib.hid (too_more hto.out HNE.out HP.out hle)
                    go_wp2_with fail
                    refine hq1.mono ?_
                    rintro e _ ⟨rfl, rfl⟩
                    go_wp2_with fail
                    refine hq2.mono ?_
                    rintro e _ ⟨rfl, rfl⟩
                    go_wp2_with fail
                    refine hq3.mono ?_
                    rintro e _ ⟨rfl, rfl⟩
                    go_wp2_with fail
                    go_round
                    case rel => exact ⟨j + 1, some j, by omega, by go_num, hN, rfl⟩
                    case measure => simp [intOf]; omega
                  · have hN := Lib.hid (too_less hto.out hle)
                    have hle2 : decide ((P.pg t).count < (P.pg j).count) = false := by simpa using hle
                    clear hle
                    go_wp2_with fail
                    refine hq1.mono ?_
                    rintro e _ ⟨rfl, rfl⟩
                    go_wp2_with fail
                    refine hq2.mono ?_
                    rintro e _ ⟨rfl, rfl⟩
                    go_wp2_with fail
                    refine hq3.mono ?_
                    rintro e _ ⟨rfl, rfl⟩
                    go_wp2_with fail
                    go_round
                    case rel => exact ⟨j + 1, some t, by omega, by go_num, hN, rfl⟩
                    case measure => simp [intOf]; omega
        · obtain rfl : j = P.n := by omega
          rw [hto.out] at hR
          have hfv : ∀ o : Option Nat, ∀ v, IsO v o → v = .int .i64 (oInt o) := by
            intro o v hv
            cases o with
            | none => exact hv
            | some f => exact hv
          obtain rfl := hfv fr _ ho
          cases to with
          | none =>
            obtain rfl : _ = Value.int .i64 (-1) := ho2
            go_wp2_with fail
            go_ret3
            exact hR.out _ _ ⟨rfl, rfl⟩
          | some t =>
            obtain rfl : _ = Value.int .i64 (t : Int) := ho2
            have ht0 : decide (0 ≤ (t : Int)) = true := by simp
            clear hfv
            go_wp2_with fail
            go_ret3
            exact hR.out _ _ ⟨rfl, rfl⟩
end Go.Proofs.Ytngmiacekcmidaa
