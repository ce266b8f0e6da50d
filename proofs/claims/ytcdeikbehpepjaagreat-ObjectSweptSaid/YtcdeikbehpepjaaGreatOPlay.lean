/- Layer 11's laws: play. -/
import Derived.Test.YtcdeikbehpepjaaGreatODo
import Derived.OwnWalk
namespace Go.Proofs.YtcdeikbehpepjaaGreat
open Go.ChangeShapes Go.WideShapes Go.Deep
open Go.RowKit Go.Maps
set_option maxHeartbeats 6400000
set_option maxRecDepth 100000
set_option linter.unusedVariables false
/-- What play yields. -/
def OPlayed (w0 w1 : World) (vp vq : Value) : Prop := (vp = .pointer none ∧ vq = .pointer none ∧ Fam w0 w1 []) ∨ ∃ p q M, vp = .pointer (some ⟨p, 0, none⟩) ∧ vq = .pointer (some ⟨q, 0, none⟩) ∧ Fam w0 w1 [PH p M, GH q M]
theorem oplay_bad (w : World) (pages : Int) (h : pages < 1 ∨ 24 < pages) (b : Option Addr) (n cap : Nat) :
    Calls Tryz.prog 7 #[.int .i64 pages, .slice b n cap] w (Exact w (.tuple #[.pointer none, .pointer none, .bool true])) := by
  refine calls_abs fun R hR => ?_
  have c1 := hnew_bad w pages h
  have c2 := gnew_bad w pages h
  clear h
  go_enter Tryz.func7, Tryz.ntmps7
  go_wp2_with fail
  refine c1.mono ?_
  rintro e _ ⟨rfl, rfl⟩
  go_wp2_with fail
  refine c2.mono ?_
  rintro e _ ⟨rfl, rfl⟩
  go_wp2_with fail
  go_loop [11] (fun iv => iv = .int .i64 0) (fun _ => 0)
  case atStart => rfl
  case round =>
    subst hrel
    by_cases hn : 0 < n
    · have hn1 : (0 : Int) < n := by omega
      go_wp2_with fail
      refine bodyPost_ret (results_tmp3 rfl _ _ _) rfl ?_
      exact hR.out _ _ ⟨rfl, rfl⟩
    · obtain rfl : n = 0 := by omega
      go_wp2_with fail
      refine bodyPost_ret (results_tmp3 rfl _ _ _) rfl ?_
      exact hR.out _ _ ⟨rfl, rfl⟩
theorem oplay_good (w : World) (N : Nat) (h1 : 1 ≤ N) (h24 : N ≤ 24) (b : Option Addr) (n cap : Nat) (f : Nat → OpR) (hd : Ops w b n f) :
    Calls Tryz.prog 7 #[.int .i64 N, .slice b n cap] w (fun e w' => ∃ p q M, e = .returned (.tuple #[.pointer (some ⟨p, 0, none⟩), .pointer (some ⟨q, 0, none⟩), .bool true]) ∧ Fam w w' [PH p M, GH q M]) := by
  refine calls_abs fun R hR => ?_
  have c1 := hnew_good w N h1 h24
  have HD := Lib.hid hd
  have HK : Hid ((Hp.new N).Ok) := Hp.Ok.new h1 h24
  have HN := Lib.hid (show 1 ≤ N ∧ N ≤ 24 from ⟨h1, h24⟩)
  clear hd h1 h24
  go_enter Tryz.func7, Tryz.ntmps7
  go_wp2_with fail
  refine c1.mono ?_
  rintro e w1 ⟨p, L, X, rfl, hp, hL, ho⟩
  have HF1 : Hid (Fam w w1 ([] ++ [PH p (Hp.new N)])) := (Fam.nil w).add (pborn hp (Hp.OkF.new HN.out.1 HN.out.2) hL ho)
  have c2 := gnew_good w1 N HN.out.1 HN.out.2
  clear hp hL ho c1
  go_wp2_with fail
  refine c2.mono ?_
  rintro e w2 ⟨q, L2, X2, rfl, hq, hL2, ho2⟩
  have HF2 : Hid (Fam w w2 [PH p (Hp.new N), GH q (Hp.new N)]) := HF1.out.add (gborn hq HK.out hL2 ho2)
  clear hq hL2 ho2 c2 HF1
  go_wp2_with fail
  go_loopw [11] (fun iv wr => ∃ (x : Nat) (M : Hp), x ≤ n ∧ x ≤ 60 ∧ iv = .int .i64 x ∧ Fam w wr [PH p M, GH q M]) (fun iv _ => n - (intOf iv).toNat)
  case atStart => exact ⟨0, Hp.new N, by omega, by omega, rfl, HF2.out⟩
  case round =>
    clear HF2
    obtain ⟨x, M, hx, hx60, rfl, hF⟩ := hrel
    have HF := Lib.hid hF
    clear hF
    by_cases hlt : x < n ∧ x < 60
    · obtain ⟨hlt, hl8⟩ := hlt
      have hlt1 : (x : Int) < n := by omega
      have hl81 : (x : Int) < 60 := by omega
      rcases HD.out.2 with h0 | ⟨bb, oo, rfl, hc⟩
      · omega
      obtain ⟨q0, q1, q2, q3, q4, wa, wb, wc, hba⟩ := hc x (by omega)
      have c := odo_any HF.out 0 1 rfl rfl (by decide) (f x).d (f x).a (f x).b (f x).c (f x).g (f x).n (f x).k (f x).l wa wb wc hba
      have c0 := HF.out.cell q0
      have c1 := HF.out.cell q1
      have c2 := HF.out.cell q2
      have c3 := HF.out.cell q3
      have c4 := HF.out.cell q4
      generalize f x = r at *
      obtain ⟨rd, ra, rb, rc, rg, rn, rk, rl⟩ := r
      clear hc q0 q1 q2 q3 q4 wa wb wc hba
      go_wp2_with fail
      refine c.mono ?_
      rintro e w3 ⟨rfl, M', hf⟩
      have HF3 : Hid (Fam w w3 [PH p M', GH q M']) := hf
      clear hf c c0 c1 c2 c3 c4
      go_wp2_with fail
      exact ⟨⟨x + 1, M', by omega, by omega, by go_num, HF3.out⟩, by simp [intOf]; omega⟩
    · by_cases h1 : x < n
      · have hl81 : (60 : Int) ≤ x := by omega
        have hlt1 : (x : Int) < n := by omega
        go_wp2_with fail
        refine bodyPost_ret (results_tmp3 rfl _ _ _) rfl ?_
        exact hR.out _ _ ⟨p, q, M, rfl, HF.out⟩
      · obtain rfl : x = n := by omega
        go_wp2_with fail
        refine bodyPost_ret (results_tmp3 rfl _ _ _) rfl ?_
        exact hR.out _ _ ⟨p, q, M, rfl, HF.out⟩
theorem oplay_any (w : World) (pages : Int) (b : Option Addr) (n cap : Nat) (f : Nat → OpR) (hd : Ops w b n f) :
    Calls Tryz.prog 7 #[.int .i64 pages, .slice b n cap] w (fun e w' => ∃ vp vq, e = .returned (.tuple #[vp, vq, .bool true]) ∧ OPlayed w w' vp vq) := by
  by_cases h : pages < 1 ∨ 24 < pages
  · refine (oplay_bad w pages h b n cap).mono ?_
    rintro e _ ⟨rfl, rfl⟩
    exact ⟨_, _, rfl, .inl ⟨rfl, rfl, Fam.nil w⟩⟩
  · obtain ⟨N, rfl⟩ : ∃ N : Nat, pages = N := ⟨pages.toNat, by omega⟩
    refine (oplay_good w N (by omega) (by omega) b n cap f hd).mono ?_
    rintro e w' ⟨p, q, M, rfl, h1⟩
    exact ⟨_, _, rfl, .inr ⟨p, q, M, rfl, rfl, h1⟩⟩
end Go.Proofs.YtcdeikbehpepjaaGreat
