/- Law ScopePlays: the walk. -/
import Derived.Test.YtbjmgbbggbbidaaSLawD
namespace Go.Proofs.Ytbjmgbbggbbidaa
open Go.RowKit Go.Maps
set_option maxHeartbeats 3200000
set_option maxRecDepth 100000
set_option linter.unusedVariables false
theorem Played.agree {w : World} {base : Nat} {vp vq : Value} (h : Played w base vp vq) : ∃ V, AgreeO w vp vq V := by
  rcases h with ⟨rfl, rfl⟩ | ⟨p, q, M, rfl, rfl, h⟩
  · exact ⟨_, agreeO_none w⟩
  · exact ⟨_, agreeO_half h⟩
theorem AgreeO.later {w w' : World} {vp vq : Value} {V : View} (h : AgreeO w vp vq V) (ho : Only [] w w') : AgreeO w' vp vq V := fun wr hr => h wr (ho.trans hr (by simp))
theorem Only.bel {w w' : World} (h : Only [] w w') : Below w.heap.size w w' := h.below (Nat.le_refl _) (by simp)
theorem walk_ScopePlays (a0 : Option Addr) (len0 cap0 : Nat) (f0 : Nat → Int) (a1 : Option Addr) (len1 cap1 : Nat) (f1 : Nat → Nat → Int) (w : World) (w0 : Numk w a0 len0 cap0 f0) (w1 : Recs 3 w a1 len1 f1) :
    Calls Try.prog 9 #[.slice a0 len0 cap0, .slice a1 len1 cap1] w fun e w' => e = .returned (.bool true) ∧ Below w.heap.size w w' := by
  refine calls_abs fun R hR => ?_
  have c := play_any w f0 a0 len0 cap0 w0 a1 len1 cap1 f1 w1
  clear w0 w1
  go_enter Try.func9, Try.ntmps9
  go_wp2_with fail
  refine c.mono ?_
  rintro e w2 ⟨vp, vq, rfl, hP, ho⟩
  obtain ⟨V, hV⟩ := hP.agree
  have HV := Lib.hid hV
  have HO := Lib.hid ho
  have c1 := areas_any w2 vp vq V hV
  clear c hP hV ho
  go_wp2_with fail
  refine c1.mono ?_
  rintro e w3 ⟨rfl, ho⟩
  have HV3 := Lib.hid (HV.out.later ho)
  have HO3 := Lib.hid (HO.out.trans ho (by simp))
  have c2 := objects_any w3 vp vq V HV3.out
  clear c1 ho
  go_wp2_with fail
  refine c2.mono ?_
  rintro e w4 ⟨rfl, ho⟩
  have HO4 := Lib.hid (HO3.out.trans ho (by simp))
  have c3 := sane_any w4
  clear c2 ho
  go_wp2_with fail
  refine c3.mono ?_
  rintro e w5 ⟨rfl, ho⟩
  have HO5 := Lib.hid (HO4.out.trans ho (by simp))
  clear c3 ho
  go_wp2_with fail
  exact hR.out _ _ ⟨rfl, HO5.out.bel⟩
end Go.Proofs.Ytbjmgbbggbbidaa
