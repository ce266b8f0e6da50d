/- Lemmas of this claim. -/
import Derived.Test.YthflghdaejbdkaaGreatXfBlock
import Derived.Test.YthflghdaejbdkaaGreatXfBModel
namespace Go.Proofs.YthflghdaejbdkaaGreat
open Go.RowKit
set_option maxHeartbeats 6400000
set_option maxRecDepth 100000
set_option linter.unusedVariables false
theorem PRep.drewTo {w w' : World} {p b : Nat} {P : Pl} (h : PRep w p b P) (k : Drew w w') : PRep w' p b P := h.only (k.only []) (by simp) (by simp)
def pairV (P : Pl) : Value := match P.pair with | none => .tuple #[.int .i64 0, .int .i64 0, .bool false] | some (i, j) => .tuple #[.int .i64 (i : Int), .int .i64 (j : Int), .bool true]
theorem pair_rep (w : World) (p b : Nat) (P : Pl) (h : PRep w p b P) :
    Calls Tryz.prog 207 #[.pointer (some ⟨p, 0, none⟩)] w fun e w' => e = .returned (pairV P) ∧ ∃ n, w' = w.drewN n := by
  refine calls_abs fun R hR => ?_
  have h24 := h.n24
  obtain ⟨cap, z0, zf, zfb, _⟩ := h.facts
  have H := Lib.hid h
  clear h
  go_enter Tryz.func207, Tryz.ntmps207
  go_wp2_with fail
  go_loopw [8] (fun s8 wr => ∃ c : Nat, c ≤ 3 ∧ s8 = .int .i64 c ∧ Hid (∀ d : Nat, d < c → P.pairC d = none) ∧ Drew w wr) (fun s8 _ => 3 - (intOf s8).toNat)
  case atStart => exact ⟨0, by omega, rfl, fun d hd => by omega, Drew.refl _⟩
  case round =>
    obtain ⟨c, hc3, rfl, hno, hd0⟩ := hrel
    obtain ⟨wo, rfl⟩ : ∃ wo : World, wo = wr := ⟨_, rfl⟩
    have HP0 := Lib.hid (H.out.drewTo hd0)
    by_cases hlt : c < 3
    · obtain ⟨capo, z0, zf, zfb, _⟩ := HP0.out.facts
      have hC : IsC (c : Int) := by unfold IsC; omega
      go_wp2_with fail
      go_loopw [2, 16] (fun s2 s16 wr => ∃ (i : Nat) (fr : Option Nat), i ≤ P.n ∧ s16 = .int .i64 i ∧ Hid (P.frm c i = fr) ∧ IsO s2 fr ∧ Drew w wr) (fun _ s16 _ => P.n - (intOf s16).toNat)
      case atStart => exact ⟨0, none, by omega, rfl, rfl, rfl, hd0⟩
      case round =>
        clear z0 zf zfb hd0 HP0
        obtain ⟨i, fr, hi, rfl, hfr, ho, hd1⟩ := hrel
        have HP1 := Lib.hid (H.out.drewTo hd1)
        obtain ⟨cap1, z0, zf, zfb, _⟩ := HP1.out.facts
        by_cases hlt2 : i < P.n
        · have hq1 := fun n => partly_of (wr.drewN n) b (i * 25) (P.pg i) ((HP1.out.pg i hlt2).drewN n) c hC
          have hq2 := fun n => count_of (wr.drewN n) b (i * 25) (P.pg i) ((HP1.out.pg i hlt2).drewN n)
          cases hp : (P.pg i).partly c with
          | false =>
            rw [hp] at hq1
            have hN := Lib.hid (frm_next hfr.out hp)
            clear hp
            go_wp2_with fail
            go_quiet (first | (go_at_call 238; with_reducible exact quiet_exact (hq1 _)))
            go_wp2_with fail
            exact ⟨⟨i + 1, fr, by omega, by go_num, hN, ho, hd1.more _⟩, by simp [intOf]; omega⟩
          | true =>
            rw [hp] at hq1
            have HP := Lib.hid hp
            clear hp
            cases fr with
            | none =>
              obtain rfl : _ = Value.int .i64 (-1) := ho
              have hN := Lib.hid (frm_first hfr.out HP.out)
              go_wp2_with fail
              go_quiet (first | (go_at_call 238; with_reducible exact quiet_exact (hq1 _)))
              go_wp2_with fail
              exact ⟨⟨i + 1, some i, by omega, by go_num, hN, rfl, hd1.more _⟩, by simp [intOf]; omega⟩
            | some f =>
              obtain rfl : _ = Value.int .i64 (f : Int) := ho
              have hf := (Pl.frm_some hfr.out).1
              have hq3 := fun n => count_of (wr.drewN n) b (f * 25) (P.pg f) ((HP1.out.pg f (by omega)).drewN n)
              have hf0 : decide ((f : Int) < 0) = false := by simp
              have c8 := (P.pg i).count_le
              have d8 := (P.pg f).count_le
              by_cases hle : (P.pg i).count ≤ (P.pg f).count
              · have hN := Lib.hid (frm_less hfr.out HP.out hle)
                go_wp2_with fail
                go_quiet (first | (go_at_call 238; with_reducible exact quiet_exact (hq1 _)) | (go_at_call 239; first | (with_reducible exact quiet_exact (hq2 _)) | (with_reducible exact quiet_exact (hq3 _))))
                go_wp2_with fail
                exact ⟨⟨i + 1, some i, by omega, by go_num, hN, rfl, hd1.more _⟩, by simp [intOf]; omega⟩
              · have hN := Lib.hid (frm_more hfr.out hle)
                have hle2 : decide ((P.pg i).count ≤ (P.pg f).count) = false := by simpa using hle
                clear hle
                go_wp2_with fail
                go_quiet (first | (go_at_call 238; with_reducible exact quiet_exact (hq1 _)) | (go_at_call 239; first | (with_reducible exact quiet_exact (hq2 _)) | (with_reducible exact quiet_exact (hq3 _))))
                go_wp2_with fail
                exact ⟨⟨i + 1, some f, by omega, by go_num, hN, rfl, hd1.more _⟩, by simp [intOf]; omega⟩
        · obtain rfl : i = P.n := by omega
          obtain ⟨wp, rfl⟩ : ∃ wp : World, wp = wr := ⟨_, rfl⟩
          go_wp2_with fail
          go_loopw [3, 55] (fun s3 s55 wr => ∃ (j : Nat) (to : Option Nat), j ≤ P.n ∧ s55 = .int .i64 j ∧ Hid (P.too c fr j = to) ∧ IsO s3 to ∧ Drew w wr) (fun _ s55 _ => P.n - (intOf s55).toNat)
          case atStart => exact ⟨0, none, by omega, rfl, rfl, rfl, hd1⟩
          case round =>
            clear z0 zf zfb HP1 hd1
            obtain ⟨j, to, hj, rfl, hto, ho2, hd2⟩ := hrel
            have HP1 := Lib.hid (H.out.drewTo hd2)
            obtain ⟨cap1, z0, zf, zfb, _⟩ := HP1.out.facts
            by_cases hlt3 : j < P.n
            · have hq1 := fun n => partly_of (wr.drewN n) b (j * 25) (P.pg j) ((HP1.out.pg j hlt3).drewN n) c hC
              have hq2 := fun n => count_of (wr.drewN n) b (j * 25) (P.pg j) ((HP1.out.pg j hlt3).drewN n)
              cases fr with
              | none =>
                obtain rfl : _ = Value.int .i64 (-1) := ho
                have hp := Pl.frm_none hfr.out j hlt3
                have hN := Lib.hid (too_next hto.out hp)
                have hb : ((j : Int) != -1) = true := by rw [bne_iff_ne]; omega
                rw [hp] at hq1
                clear hp
                go_wp2_with fail
                go_quiet (first | (go_at_call 238; with_reducible exact quiet_exact (hq1 _)))
                go_wp2_with fail
                exact ⟨⟨j + 1, to, by omega, by go_num, hN, ho2, hd2.more _⟩, by simp [intOf]; omega⟩
              | some f =>
                obtain rfl : _ = Value.int .i64 (f : Int) := ho
                by_cases hjf : j = f
                · have hN := Lib.hid (too_same hto.out (by rw [hjf]))
                  have hb : ((j : Int) != (f : Int)) = false := by rw [bne_eq_false_iff_eq]; omega
                  clear hjf
                  go_wp2_with fail
                  go_quiet (fail)
                  go_wp2_with fail
                  exact ⟨⟨j + 1, to, by omega, by go_num, hN, ho2, hd2.more _⟩, by simp [intOf]; omega⟩
                · have hne : some j ≠ some f := by simpa using hjf
                  have HNE := Lib.hid hne
                  have hb : ((j : Int) != (f : Int)) = true := by rw [bne_iff_ne]; omega
                  clear hjf hne
                  cases hp : (P.pg j).partly c with
                  | false =>
                    rw [hp] at hq1
                    have hN := Lib.hid (too_next hto.out hp)
                    clear hp
                    go_wp2_with fail
                    go_quiet (first | (go_at_call 238; with_reducible exact quiet_exact (hq1 _)))
                    go_wp2_with fail
                    exact ⟨⟨j + 1, to, by omega, by go_num, hN, ho2, hd2.more _⟩, by simp [intOf]; omega⟩
                  | true =>
                    rw [hp] at hq1
                    have HP := Lib.hid hp
                    clear hp
                    cases to with
                    | none =>
                      obtain rfl : _ = Value.int .i64 (-1) := ho2
                      have hN := Lib.hid (too_first hto.out HNE.out HP.out)
                      go_wp2_with fail
                      go_quiet (first | (go_at_call 238; with_reducible exact quiet_exact (hq1 _)))
                      go_wp2_with fail
                      exact ⟨⟨j + 1, some j, by omega, by go_num, hN, rfl, hd2.more _⟩, by simp [intOf]; omega⟩
                    | some t =>
                      obtain rfl : _ = Value.int .i64 (t : Int) := ho2
                      have ht := (Pl.too_some hto.out).1
                      have hq3 := fun n => count_of (wr.drewN n) b (t * 25) (P.pg t) ((HP1.out.pg t (by omega)).drewN n)
                      have hf0 : decide ((t : Int) < 0) = false := by simp
                      have c8 := (P.pg j).count_le
                      have d8 := (P.pg t).count_le
                      by_cases hle : (P.pg t).count < (P.pg j).count
                      · have hN := Lib.hid (too_more hto.out HNE.out HP.out hle)
                        go_wp2_with fail
                        go_quiet (first | (go_at_call 238; with_reducible exact quiet_exact (hq1 _)) | (go_at_call 239; first | (with_reducible exact quiet_exact (hq2 _)) | (with_reducible exact quiet_exact (hq3 _))))
                        go_wp2_with fail
                        exact ⟨⟨j + 1, some j, by omega, by go_num, hN, rfl, hd2.more _⟩, by simp [intOf]; omega⟩
                      · have hN := Lib.hid (too_less hto.out hle)
                        have hle2 : decide ((P.pg t).count < (P.pg j).count) = false := by simpa using hle
                        clear hle
                        go_wp2_with fail
                        go_quiet (first | (go_at_call 238; with_reducible exact quiet_exact (hq1 _)) | (go_at_call 239; first | (with_reducible exact quiet_exact (hq2 _)) | (with_reducible exact quiet_exact (hq3 _))))
                        go_wp2_with fail
                        exact ⟨⟨j + 1, some t, by omega, by go_num, hN, rfl, hd2.more _⟩, by simp [intOf]; omega⟩
            · obtain rfl : j = P.n := by omega
              cases to with
              | none =>
                obtain rfl : _ = Value.int .i64 (-1) := ho2
                have hN : Hid (∀ d : Nat, d < c + 1 → P.pairC d = none) := by
                  intro d hd
                  by_cases e : d = c
                  · subst e
                    unfold Pl.pairC
                    rw [hfr.out, hto.out]
                    cases fr <;> rfl
                  · exact hno.out d (by omega)
                go_wp2_with fail
                exact ⟨⟨c + 1, by omega, by go_num, hN, hd2⟩, by simp [intOf]; omega⟩
              | some t =>
                obtain rfl : _ = Value.int .i64 (t : Int) := ho2
                cases fr with
                | none => exact absurd (Pl.too_some hto.out).2.2 (by rw [Pl.frm_none hfr.out t (Pl.too_some hto.out).1]; simp)
                | some f =>
                  obtain rfl : _ = Value.int .i64 (f : Int) := ho
                  have hN : Hid (pairV P = .tuple #[.int .i64 (f : Int), .int .i64 (t : Int), .bool true]) := by
                    have e1 : P.pairC c = some (f, t) := by unfold Pl.pairC; rw [hfr.out, hto.out]
                    have e2 : P.pair = some (f, t) := by
                      unfold Pl.pair
                      obtain rfl | rfl | rfl : c = 0 ∨ c = 1 ∨ c = 2 := by omega
                      · rw [show P.pairC 0 = some (f, t) from e1]; rfl
                      · rw [show P.pairC 0 = none from hno.out 0 (by omega), show P.pairC 1 = some (f, t) from e1]; rfl
                      · rw [show P.pairC 0 = none from hno.out 0 (by omega), show P.pairC 1 = none from hno.out 1 (by omega), show P.pairC 2 = some (f, t) from e1]; rfl
                    show _ = _
                    unfold pairV
                    rw [e2]
                  go_wp2_with fail
                  go_ret3
                  exact hR.out _ _ ⟨by rw [hN.out]; rfl, hd2.ex⟩
    · obtain rfl : c = 3 := by omega
      have hN : Hid (pairV P = .tuple #[.int .i64 0, .int .i64 0, .bool false]) := by
        show _ = _
        unfold pairV Pl.pair
        rw [show P.pairC 0 = none from hno.out 0 (by omega), show P.pairC 1 = none from hno.out 1 (by omega), show P.pairC 2 = none from hno.out 2 (by omega)]
        rfl
      go_wp2_with fail
      go_ret3
      exact hR.out _ _ ⟨by rw [hN.out]; rfl, hd0.ex⟩
end Go.Proofs.YthflghdaejbdkaaGreat
namespace Go.Proofs.YthflghdaejbdkaaGreat
open Go.RowKit
set_option maxHeartbeats 1600000
set_option maxRecDepth 100000
set_option linter.unusedVariables false
theorem PgOnly.keep {b o o2 : Nat} {w w' : World} {q : Pg} (h : PgOnly b o w w') (ho : o2 + 25 ≤ o ∨ o + 25 ≤ o2) (hq : PgAt w b o2 q) : PgAt w' b o2 q := by
  intro r hr
  rw [h.cell _ (by omega)]
  exact hq r hr
theorem move_none (w : World) (p b : Nat) (P : Pl) (h : PRep w p b P) (hp : P.pair = none) :
    Calls Tryz.prog 137 #[.pointer (some ⟨p, 0, none⟩)] w fun e w' => e = .returned (.tuple #[.int .i64 0, .int .i64 0, .int .i64 3]) ∧ Drew w w' := by
  refine calls_abs fun R hR => ?_
  have hpr := pair_rep w p b P h
  rw [show pairV P = .tuple #[.int .i64 0, .int .i64 0, .bool false] by unfold pairV; rw [hp]] at hpr
  go_enter Tryz.func137, Tryz.ntmps137
  go_wp2_with fail
  refine (none_rep _ _ _ _ h).mono ?_
  rintro e _ ⟨rfl, rfl⟩
  go_wp2_with fail
  refine hpr.mono ?_
  rintro e _ ⟨rfl, n1, rfl⟩
  go_wp2_with fail
  go_ret3
  exact hR.out _ _ ⟨rfl, Drew.of _ _⟩
set_option maxHeartbeats 6400000 in
theorem move_some (w : World) (p b : Nat) (P : Pl) (h : PRep w p b P) (i j : Nat) (hp : P.pair = some (i, j)) :
    Calls Tryz.prog 137 #[.pointer (some ⟨p, 0, none⟩)] w fun e w' =>
      e = .returned (.tuple #[.int .i64 ((16 * i + (P.pg i).top (P.pg i).cls * bsz (P.pg i).cls : Nat) : Int), .int .i64 ((16 * j + (P.pg j).gap (P.pg j).cls * bsz (P.pg i).cls : Nat) : Int), .int .i64 0]) ∧ PRep w' p b (P.moved i j) ∧ Only [b] w w' := by
  refine calls_abs fun R hR => ?_
  have hpr := fun wx hx => pair_rep wx p b P hx
  rw [show pairV P = .tuple #[.int .i64 (i : Int), .int .i64 (j : Int), .bool true] by unfold pairV; rw [hp]] at hpr
  have hP := Pl.pair_some hp
  have hmv : Hid (P.moved i j = (P.set j ((P.pg j).take (P.pg i).cls ((P.pg j).gap (P.pg j).cls) fun x => (P.pg i).cell ((P.pg i).top (P.pg i).cls * bsz (P.pg i).cls + x))).set i ((P.pg i).release ((P.pg i).top (P.pg i).cls))) := rfl
  have hok2 := Lib.hid (h.ok.moved hP).1
  rw [hmv.out] at hok2
  have hC := hP.c
  have hne1 : (P.pg i).cls ≠ -1 := by rcases hC with e | e | e <;> omega
  have htop := (h.ok i hP.hi).top hne1
  have hgap := (h.ok j hP.hj).gap hC hP.pj
  have hsame := hP.same
  rw [hsame] at hmv hR hok2
  have hi := hP.hi
  have hj := hP.hj
  have hij := hP.ne
  have h24 := h.n24
  have hoki := h.ok i hi
  have hokj := h.ok j hj
  have hpbn := h.ne
  obtain ⟨c, hc⟩ : ∃ c, c = (P.pg i).cls := ⟨_, rfl⟩
  rw [← hc] at hC htop hgap hmv hsame hR hok2
  have hsz := hC.sz
  have hbk := hC.blk htop.1
  have hbl := hC.blk hgap.1
  have hok1 := Lib.hid (h.ok.set (hokj.take hC (.inr hsame) hgap.1 (fun x => (P.pg i).cell ((P.pg i).top c * bsz c + x))) (i := j))
  have hrelok := Lib.hid (hoki.release hne1 ((P.pg i).top c))
  have hft : ∀ wx, PgAt wx b (i * 25) (P.pg i) → Calls Tryz.prog 209 #[.pointer (some ⟨b, i * 25, none⟩), .bool true] wx fun e w' => e = .returned (.int .i64 ((P.pg i).top c)) ∧ Drew wx w' := fun wx hx => by
    have := first_top wx b (i * 25) (P.pg i) hx (by rw [← hc]; exact hC) (by rw [← hc]; exact htop.1)
    rw [← hc] at this
    exact this
  have hfg : ∀ wx, PgAt wx b (j * 25) (P.pg j) → Calls Tryz.prog 209 #[.pointer (some ⟨b, j * 25, none⟩), .bool false] wx fun e w' => e = .returned (.int .i64 ((P.pg j).gap c)) ∧ Drew wx w' := fun wx hx => by
    have := first_gap wx b (j * 25) (P.pg j) hx (by rw [hsame]; exact hC) (by rw [hsame]; exact hgap.1)
    rw [hsame] at this
    exact this
  have hsize : ∀ wx, Calls Tryz.prog 208 #[.int .i64 c] wx (Exact wx (.int .i64 (bsz c : Int))) := fun wx => size_of wx c hC
  have hcl : Hid ((P.pg i).cls = c) := hc.symm
  obtain ⟨k, hk⟩ : ∃ k, k = (P.pg i).top c := ⟨_, rfl⟩
  obtain ⟨l, hl⟩ : ∃ l, l = (P.pg j).gap c := ⟨_, rfl⟩
  obtain ⟨z, hz⟩ : ∃ z, z = bsz c := ⟨_, rfl⟩
  simp only [← hk, ← hl, ← hz] at hmv hR hok2 hok1 hrelok hft hfg hsize hbk hbl hsz htop hgap
  obtain ⟨mk, hmk⟩ : ∃ mk, mk = k * z := ⟨_, rfl⟩
  obtain ⟨ml, hml⟩ : ∃ ml, ml = l * z := ⟨_, rfl⟩
  simp only [← hmk, ← hml] at hmv hR hok2 hok1 hbk hbl
  have hi1 : (k : Int) * (z : Int) = (mk : Int) := by rw [hmk]; simp
  have hi2 : ((k : Int) + 1) * (z : Int) = (mk : Int) + (z : Int) := by rw [Int.add_mul, Int.one_mul, hi1]
  have hj1 : (l : Int) * (z : Int) = (ml : Int) := by rw [hml]; simp
  have hj2 : ((l : Int) + 1) * (z : Int) = (ml : Int) + (z : Int) := by rw [Int.add_mul, Int.one_mul, hj1]
  have hmk16 : mk + z ≤ 16 := hbk.1
  have hml16 : ml + z ≤ 16 := hbl.1
  have hz8 : z ≤ 8 := by omega
  have hz2 : 0 < z := by omega
  have hk8 : k < 8 := by omega
  have hl8 : l < 8 := by omega
  have h16k : ¬ 16 = mk := by omega
  have h16l : ¬ 16 = ml := by omega
  have hb1 : (mk : Int) + (z : Int) ≤ 16 := by omega
  have hb2 : (0 : Int) ≤ mk := by omega
  have hb3 : (mk : Int) ≤ (mk : Int) + (z : Int) := by omega
  have hb4 : (0 : Int) ≤ (mk : Int) + (z : Int) := by omega
  have hc1 : (ml : Int) + (z : Int) ≤ 16 := by omega
  have hc2 : (0 : Int) ≤ ml := by omega
  have hc3 : (ml : Int) ≤ (ml : Int) + (z : Int) := by omega
  have hc4 : (0 : Int) ≤ (ml : Int) + (z : Int) := by omega
  have hw1 : IntKind.i64.wrap (mk : Int) = mk := IntWalk.i64_in _ (by omega)
  have hw2 : IntKind.i64.wrap ((mk : Int) + (z : Int)) = (mk : Int) + (z : Int) := IntWalk.i64_in _ (by omega)
  have hw3 : IntKind.i64.wrap ((k : Int) + 1) = (k : Int) + 1 := IntWalk.i64_in _ (by omega)
  have hv1 : IntKind.i64.wrap (ml : Int) = ml := IntWalk.i64_in _ (by omega)
  have hv2 : IntKind.i64.wrap ((ml : Int) + (z : Int)) = (ml : Int) + (z : Int) := IntWalk.i64_in _ (by omega)
  have hv3 : IntKind.i64.wrap ((l : Int) + 1) = (l : Int) + 1 := IntWalk.i64_in _ (by omega)
  have H := Lib.hid h
  have HTOP := Lib.hid htop
  have HGAP := Lib.hid hgap
  have HSAME := Lib.hid hsame
  have HIJ := Lib.hid hij
  have HZ := Lib.hid hz
  have HML := Lib.hid hml
  clear hc hk hl hz hmk hml h hp hP hbk hbl htop hgap hsame hij hne1
  go_enter Tryz.func137, Tryz.ntmps137
  go_wp2_with fail
  refine (none_rep _ _ _ _ H.out).mono ?_
  rintro e _ ⟨rfl, rfl⟩
  go_wp2_with fail
  refine (hpr _ H.out).mono ?_
  rintro e w1 ⟨rfl, hd1⟩
  have hd1 : Drew w w1 := hd1
  have H1 := Lib.hid (H.out.drewTo hd1)
  obtain ⟨cap1, z0, zf, zfb, _⟩ := H1.out.facts
  have hcls1 := (H1.out.pg i hi).cls
  rw [hcl.out] at hcls1
  go_wp2_with fail
  go_quiet (fail)
  go_wp2_with fail
  refine (hsize _).mono ?_
  rintro e _ ⟨rfl, rfl⟩
  go_wp2_with fail
  refine (hft _ ((H1.out.pg i hi).drewN _)).mono ?_
  rintro e w2 ⟨rfl, hd2⟩
  have hd3 := (Drew.of w1 _).trans hd2
  go_wp2_with fail
  refine (hfg _ ((H1.out.drewTo hd3).pg j hj)).mono ?_
  rintro e w3 ⟨rfl, hd4⟩
  have hd5 := (hd1.trans hd3).trans hd4
  have H3 := Lib.hid (H.out.drewTo hd5)
  clear hd1 hd2 hd3 hd4 H1 z0 zf zfb hcls1
  obtain ⟨cap3, z0, zf, zfb, _⟩ := H3.out.facts
  go_wp2_with fail
  go_still_tail 22, (by kernel_rfl)
  have ezk : ((mk : Int) + (z : Int)).toNat - mk = z := by omega
  have ezl : ((ml : Int) + (z : Int)).toNat - ml = z := by omega
  rw [ezk, ezl]
  change wpList _ _ _ _ _ w3.drew
  have hPi := H3.out.pg i hi
  have hPj := H3.out.pg j hj
  refine wpList_copy_cells rfl (.tmp 54) (.tmp 65) 23 23 3 rfl Tryz.underlying23 (by kernel_rfl) b (j * 25 + 9 + ml) z (16 - ml) rfl b (i * 25 + 9 + mk) (16 - mk) rfl ((List.range z).map fun x => Value.int .i64 ((P.pg i).cell (mk + x))) (by simp) ?c1 ?c2 ?c3 ?c4 ?c5
  case c1 =>
    intro x v hv
    obtain ⟨hx, rfl⟩ := range_map_at hv
    have := hPi.cell (k := mk + x) (by omega)
    rw [← Nat.add_assoc] at this
    exact this
  case c2 =>
    intro x hx
    have := hPj.cell (k := ml + x) (by omega)
    rw [← Nat.add_assoc] at this
    show (w3.cell? _).isSome = true
    rw [this]
    rfl
  case c3 => exact fun x hx => zfb _
  case c4 =>
    intro v hv
    simp only [List.mem_map] at hv
    obtain ⟨x, _, rfl⟩ := hv
    rfl
  have zPj : PgAt (w3.drew.setCells b (j * 25 + 9 + ml) ((List.range z).map fun x => Value.int .i64 ((P.pg i).cell (mk + x)))) b (j * 25) { P.pg j with cell := fun x => if ml ≤ x ∧ x < ml + z then (P.pg i).cell (mk + (x - ml)) else (P.pg j).cell x } := (show PgAt w3.drew b (j * 25) _ from hPj).setCells ml z hml16 (fun x => (P.pg i).cell (mk + x))
  have zO : PgOnly b (j * 25) w3 (w3.drew.setCells b (j * 25 + 9 + ml) ((List.range z).map fun x => Value.int .i64 ((P.pg i).cell (mk + x)))) := (show PgOnly b (j * 25) w3 w3.drew from (PgOnly.refl _ _ _).drewN 1).setCells ml z hml16 (fun x => (P.pg i).cell (mk + x))
  generalize w3.drew.setCells b (j * 25 + 9 + ml) ((List.range z).map fun x => Value.int .i64 ((P.pg i).cell (mk + x))) = w4 at *
  have hu4 := zPj.used hl8
  have zf4 : ∀ x, w4.frozen? ⟨b, x, none⟩ = false := by
    intro x
    obtain ⟨T, cs, hcs⟩ := H3.out.hb
    obtain ⟨cs', h5⟩ := zO.row T cs hcs
    exact h5.free x
  have zPj5 := Lib.hid (zPj.setUsed hl8 true)
  have zO5 := zO.setU hl8 (.bool true)
  have zPi5 : Hid (PgAt (w4.setCell ⟨b, j * 25 + 1 + l, none⟩ (.bool true)) b (i * 25) (P.pg i)) := zO5.keep (by have := HIJ.out; omega) hPi
  have ZO5 := Lib.hid zO5
  have zf5 : ∀ x, (w4.setCell ⟨b, j * 25 + 1 + l, none⟩ (.bool true)).frozen? ⟨b, x, none⟩ = false := fun x => by rw [World.frozen?_setCell]; exact zf4 x
  have ZF5 := Lib.hid zf5
  clear zPj zO hPi hPj zO5 z0 zf zfb zf5
  go_wp2_with fail
  refine (release_of _ b (i * 25) (P.pg i) zPi5.out ZF5.out k hk8).mono ?_
  rintro e w6 ⟨rfl, g6, o6⟩
  have hw5 : IntKind.i64.wrap ((i : Int) * 16) = (i : Int) * 16 := IntWalk.i64_in _ (by omega)
  have hw6 : IntKind.i64.wrap ((j : Int) * 16) = (j : Int) * 16 := IntWalk.i64_in _ (by omega)
  clear hu4 zf4
  go_wp2_with fail
  go_ret3
  refine hR.out _ _ ⟨?_, ?_, ?_⟩
  · have e1 : ((16 * i + mk : Nat) : Int) = (i : Int) * 16 + (mk : Int) := by omega
    have e2 : ((16 * j + ml : Nat) : Int) = (j : Int) * 16 + (ml : Int) := by omega
    rw [e1, e2]
    rfl
  · rw [hmv.out]
    have e3 : (P.pg j).take c l (fun x => (P.pg i).cell (mk + x)) = { cls := (P.pg j).cls, used := up (P.pg j).used l true, cell := fun x => if ml ≤ x ∧ x < ml + z then (P.pg i).cell (mk + (x - ml)) else (P.pg j).cell x } := by
      unfold Pg.take
      rw [HSAME.out, HML.out, HZ.out]
    have hA : PRep (w4.setCell ⟨b, j * 25 + 1 + l, none⟩ (.bool true)) p b (P.set j ((P.pg j).take c l fun x => (P.pg i).cell (mk + x))) :=
      H3.out.turn hj (by rw [e3]; exact zPj5.out) ZO5.out hok1.out
    exact hA.turn (i := i) hi g6 o6 hok2.out
  · exact (hd5.only [b]).trans ((ZO5.out.only).trans o6.only (by simp)) (by simp)
end Go.Proofs.YthflghdaejbdkaaGreat
