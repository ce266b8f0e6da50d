/- Contracts of Copy of both markers. -/
import Derived.Test.YtkjocehdbpekjaaGreatMkG
import Derived.Test.YtkjocehdbpekjaaGreatCloneLay
import Derived.Test.YtkjocehdbpekjaaGreatRObjQ
import Derived.Deep.AppendLies
namespace Go.Proofs.YtkjocehdbpekjaaGreat
open Go.RowKit Go.Maps Go.Shelf
set_option maxHeartbeats 12800000
set_option maxRecDepth 100000
set_option linter.unusedVariables false
theorem cloneC_any (w : World) (mb : Nat) (col : Int → Int) (h : MapC w mb col) : Calls Tryz.prog 116 #[.map (some mb)] w fun e w' => e = .returned (.map (some w.heap.size)) ∧ MapC w' w.heap.size col ∧ Only [] w w' := by
  obtain ⟨D, hD, h1, h2⟩ := h
  have c := AnyW.maps_Clone_owns Tryz.cloneC 3 (plainElem (H := Unit) Tryz.prog 3) mb 192 D w hD
  change Calls Tryz.prog 116 _ _ _ at c
  exact c.mono fun e w' ⟨he, ho, _, hb⟩ => ⟨he, ⟨D, ho, h1, h2⟩, ⟨hb.os, hb.tape, hb.output, hb.size, fun k hk _ => hb.block k hk⟩⟩
section
variable {w0 w : World} {l : List Asn} {i j hb p q r : Nat} {m : Mk}
theorem mcopy_rep (w : World) (T2 : Two2 l i j) (hf : Fam w0 w (ML l i j hb p m)) (hm : m.Ok) : Calls Tryz.prog 53 #[.pointer (some ⟨p, 0, none⟩)] w (fun e w' => ∃ q2 p2, e = .returned (.pointer (some ⟨p2, 0, none⟩)) ∧ Fam w0 w' (ML l i j hb p m ++ [PH q2 m.M] ++ [MkA p2 q2 m.col m.list])) := by
  refine calls_abs fun R hR => ?_
  have HF := Lib.hid hf
  obtain ⟨hk, L, X, hp⟩ := ML.ph T2 hf
  have HKF := Lib.hid (hf.phF i (ML.heap T2))
  obtain ⟨mb, v, hg⟩ := ML.mk T2 hf
  have HC1 : Hid (∀ wx, Only [] w wx → Calls Tryz.prog 115 #[.pointer (some ⟨hb, 0, none⟩)] wx (fun e w' => ∃ q L' X', e = .returned (.pointer (some ⟨q, 0, none⟩)) ∧ HRep w' L' q m.M X' ∧ (∀ k, L' k ≠ none → wx.heap.size ≤ k) ∧ Only [] wx w')) := fun wx ho => by
    have c := hcopy_rep wx (hp.only0 ho) hk
    exact c
  have HC2 : Hid (∀ wx, Only [] w wx → Calls Tryz.prog 116 #[.map (some mb)] wx (fun e w' => e = .returned (.map (some wx.heap.size)) ∧ MapC w' wx.heap.size m.col ∧ Only [] wx w')) := fun wx ho => cloneC_any wx mb m.col (hg.map.onlyF ho (by simp))
  have HC3 : Hid (∀ wx, Only [] w wx → Calls Tryz.prog 73 #[v] wx (fun e w' => ∃ v', e = .returned v' ∧ Ints w' wx.heap.size v' m.list ∧ Only [] wx w')) := fun wx ho => clone_ownI wx v m.list (hg.ints.only ho (by simp)) (by have := hm.len; omega)
  obtain ⟨z0, z1, z2, _⟩ := hg.cells
  have hn := mnone_rep w z0
  have d0 : w.drew.cell? ⟨p, 0, none⟩ = _ := z0
  have d1 : w.drew.cell? ⟨p, 1, none⟩ = _ := z1
  have d2 : w.drew.cell? ⟨p, 2, none⟩ = _ := z2
  obtain ⟨ga, gc, hv⟩ := hg.ints.len
  subst hv
  generalize m.list.length = n at *
  have D0 := Lib.hid (only_d1 w)
  clear hf hk hp hg
  go_enter Tryz.func53, Tryz.ntmps53
  go_wp2_with fail
  refine hn.mono ?_
  rintro e _ ⟨rfl, rfl⟩
  clear hn
  go_wp2_with fail
  go_region_held3 (fun w' => w'.cell? ⟨p, 0, none⟩ = some (.pointer (some ⟨hb, 0, none⟩)) ∧ w'.cell? ⟨p, 1, none⟩ = some (.map (some mb)) ∧ w'.cell? ⟨p, 2, none⟩ = some (.slice ga n gc))
    (first
      | (exact ⟨d0, d1, d2⟩)
      | (exact ⟨hoA.cellN d0, hoA.cellN d1, hoA.cellN d2⟩)
      | (exact ⟨hoB.cellN d0, hoB.cellN d1, hoB.cellN d2⟩)
      | (exact ⟨hoC.cellN d0, hoC.cellN d1, hoC.cellN d2⟩)
      | (exact ⟨hoB.cellN (hoA.cellN d0), hoB.cellN (hoA.cellN d1), hoB.cellN (hoA.cellN d2)⟩)
      | (exact ⟨hoC.cellN (hoB.cellN (hoA.cellN d0)), hoC.cellN (hoB.cellN (hoA.cellN d1)), hoC.cellN (hoB.cellN (hoA.cellN d2))⟩)
      | (exact ⟨(hoC.alloc _).cellN (hoB.cellN (hoA.cellN d0)), (hoC.alloc _).cellN (hoB.cellN (hoA.cellN d1)), (hoC.alloc _).cellN (hoB.cellN (hoA.cellN d2))⟩))
    (first
      | (go_at_call 115; refine (HC1.out _ D0.out).mono ?_; rintro e wA ⟨q2, L2, X2, rfl, hpA, hLA, hoA⟩)
      | (go_at_call 116; refine (HC2.out _ (D0.out.trans hoA (by simp))).mono ?_; rintro e wB ⟨rfl, hmB, hoB⟩)
      | (go_at_call 73; refine (HC3.out _ ((D0.out.trans hoA (by simp)).trans hoB (by simp))).mono ?_; rintro e wC ⟨v2, rfl, hiC, hoC⟩; obtain ⟨va2, vc2, hv2⟩ := hiC.len; subst hv2)
)
  have hFA : Fam w0 wA (ML l i j hb p m ++ [PH q2 m.M]) := HF.out.drew.add (pborn hpA HKF.out hLA hoA)
  have hBC : Only [] wB ((wC.alloc (.cells #[.pointer (some ⟨q2, 0, none⟩), .map (some wA.heap.size), .slice va2 m.list.length vc2] 120))) := hoC.alloc _
  have hsB := hoB.size
  have hsC := hoC.size
  have hmlt := hmB.lt
  have hborn : Born wA (wC.alloc (.cells #[.pointer (some ⟨q2, 0, none⟩), .map (some wA.heap.size), .slice va2 m.list.length vc2] 120)) (MkA wC.heap.size q2 m.col m.list) := by
    refine ⟨hoB.trans hBC (by simp), fun k => k = wC.heap.size ∨ k = wA.heap.size ∨ (Value.slice va2 m.list.length vc2).ownBlock = some k, ⟨wA.heap.size, .slice va2 m.list.length vc2, ⟨⟨120, Row.new wC 120 [_, _, _]⟩, hmB.onlyF hBC (by simp), (hiC.base (Nat.zero_le _)).alloc _, by omega, fun g hg => ?_⟩, fun k => Iff.rfl⟩, fun k hk => ?_⟩
    · have := hiC.own g hg
      exact ⟨by omega, by omega⟩
    · rcases hk with hk | hk | hk
      · omega
      · omega
      · have := hiC.own k hk; omega
  have HFE := Lib.hid (hFA.add hborn)
  clear hFA hBC hborn hmlt hsB hsC hpA hLA hoA hmB hoB hiC hoC d0 d1 d2
  go_wp2_with fail
  exact hR.out _ _ ⟨q2, wC.heap.size, rfl, HFE.out⟩
/-- A copy of a slice of numbers: append to nil, as one step of a region. -/
theorem step_icpy {ops : Array Oper} {o : Oper} {ac : Act} {wl : World} {K : Act → World → Prop} {Q : Exit → Act → World → Prop} {E : Prop} (hgd : o.guard = none) (s x : Operand)
    (ho : o.op = .call { callee := .builtin .append, args := #[s, x], argTypes := #[23, 23] }) (w0 : World) (hO : Only [] w0 wl)
    (hs : ac.eval s = .slice none 0 0) (va : Option Addr) (n vc : Nat) (l : List Int) (hx : ac.eval x = .slice va n vc) (hl : l.length = n) (hv : Ints w0 0 (.slice va n vc) l) (hb : n ≤ 1000000)
    (h : ∀ v' w', Hid (Ints w' wl.heap.size v' l) → Hid (Only [] wl w') → K (ac.put o.dst v') w') :
    if Region.wanted o (yielded ops ac.tmps) = true then Oper.wp Tryz.prog o ac wl K Q else E := by
  obtain ⟨i0, hi0, hz0, hz1, hz2⟩ := info_parts infoInt
  by_cases h0 : n = 0
  · subst h0
    have hnil : l = [] := List.eq_nil_of_length_eq_zero hl
    subst hnil
    have hw : Region.wanted o (yielded ops ac.tmps) = true := by simp [Region.wanted, hgd]
    rw [if_pos hw]
    have hsrc : Src Tryz.prog i0.size 23 (.slice va 0 vc) 0 [] wl := by
      cases va with
      | none => exact Src.ofNil wl Tryz.underlying23 vc
      | some a => exact Src.ofSlice wl Tryz.underlying23 a 0 vc [] (by simp) (fun j u hu => by simp at hu) (fun u hu => by simp at hu)
    have hr := run_append_nothing (P := Tryz.prog) wl 23 23 o.type 3 i0 Tryz.underlying23 hi0 none 0 0 (Nat.le_refl _) (.slice va 0 vc) hsrc
    unfold Oper.wp execOp
    simp only [ho, resolve, invoke, builtin, Sem.run_bind, Sem.run_pure, Result.andThen_ok, List.map_toArray, List.map_cons, List.map_nil, hs, hx, hr]
    exact h (.slice none 0 0) wl (Ints.nil _ _) (Only.refl _ _)
  · have hn0 : 0 < n := by omega
    rcases hv.form with ⟨h1, _⟩ | ⟨g, cap, h1, _, _, _, hc⟩
    · simp only [Value.slice.injEq] at h1; omega
    · simp only [Value.slice.injEq] at h1
      obtain ⟨rfl, _, rfl⟩ := h1
      refine step_append_lies (P := Tryz.prog) _ hgd s x 23 ho wl.heap.size 3 i0 (.int .i64 0) 1 8 Tryz.underlying23 hi0 hz0 hz1 hz2 rfl (by omega) (.slice none 0 0) 0 [] hs (Ints.nil wl wl.heap.size) ⟨g, 0, none⟩ n vc (l.map (Value.int .i64)) hx (by simp [hl]) (fun j u hu => ?_) (fun u hu => ?_) hn0 (by simp only [maxLen]; omega) (by omega) (Nat.le_refl _) wl.heap.size rfl ?_
      · simp only [List.getElem?_map, Option.map_eq_some_iff] at hu
        obtain ⟨y, hy, rfl⟩ := hu
        have hj := (List.getElem?_eq_some_iff.1 hy).1
        have h1 := hO.cell (hc j hj) (by simp)
        rw [gI, hy] at h1
        rw [show (⟨g, 0, none⟩ : Addr).add j = ⟨g, j, none⟩ by unfold Addr.add; split <;> simp_all]
        exact h1
      · simp only [List.mem_map] at hu
        obtain ⟨y, _, rfl⟩ := hu
        rfl
      · intro g2 cap2 w' k1 k2 k3 k4
        rw [Nat.zero_add] at k1 ⊢
        refine h _ w' ?_ ((Only.refl [] wl).grown k2 (fun k hk => by cases hk))
        show Ints _ _ _ _
        unfold Ints
        rw [hl]
        exact k1
theorem gmcopy_rep (w : World) (T2 : Two2 l i j) (hf : Fam w0 w (RL l i j q r m)) (hm : m.Ok) : Calls Tryz.prog 54 #[.pointer (some ⟨r, 0, none⟩)] w (fun e w' => ∃ q2 r2, e = .returned (.pointer (some ⟨r2, 0, none⟩)) ∧ Fam w0 w' (RL l i j q r m ++ [GH q2 m.M] ++ [GkA r2 q2 m.col m.list])) := by
  refine calls_abs fun R hR => ?_
  have HF := Lib.hid hf
  obtain ⟨hk, L, X, hp⟩ := RL.gh T2 hf
  have HK := Lib.hid hk
  obtain ⟨tg, tc, v, T, hg⟩ := RL.mk T2 hf
  have HC1 : Hid (∀ wx, Only [] w wx → Calls Tryz.prog 117 #[.pointer (some ⟨q, 0, none⟩)] wx (fun e w' => ∃ q L' X', e = .returned (.pointer (some ⟨q, 0, none⟩)) ∧ GRep w' L' q m.M X' ∧ (∀ k, L' k ≠ none → wx.heap.size ≤ k) ∧ Only [] wx w')) := fun wx ho => gcopy_rep wx (hp.only0 ho) hk
  obtain ⟨z0, z1, z2, _⟩ := hg.cells
  have d0 : w.drew.cell? ⟨r, 0, none⟩ = _ := z0
  have d1 : w.drew.cell? ⟨r, 1, none⟩ = _ := z1
  have d2 : w.drew.cell? ⟨r, 2, none⟩ = _ := z2
  obtain ⟨ga, gc, hv⟩ := hg.ints.len
  subst hv
  have HTI := Lib.hid hg.tint
  have HTL := Lib.hid hg.tl
  have HTV := Lib.hid hg.tv
  have HLI : Hid (Ints w 0 (.slice ga m.list.length gc) m.list) := hg.ints
  have HLE := Lib.hid hm.len
  generalize HNL : m.list.length = n at *
  have HN := Lib.hid HNL
  have HNB : Hid (n ≤ 1000000) := by have := HLE.out; show _ ≤ _; omega
  have D0 := Lib.hid (only_d1 w)
  clear hf hk hp hg HNL
  go_enter Tryz.func54, Tryz.ntmps54
  go_wp2_with fail
  go_region_held3 (fun w' => w'.cell? ⟨r, 0, none⟩ = some (.pointer (some ⟨q, 0, none⟩)) ∧ w'.cell? ⟨r, 1, none⟩ = some (.slice (some ⟨tg, 0, none⟩) 193 tc) ∧ w'.cell? ⟨r, 2, none⟩ = some (.slice ga n gc))
    (first
      | (exact ⟨d0, d1, d2⟩)
      | (exact ⟨hoA.cellN d0, hoA.cellN d1, hoA.cellN d2⟩)
      | (exact ⟨hoB.out.cellN (hoA.cellN d0), hoB.out.cellN (hoA.cellN d1), hoB.out.cellN (hoA.cellN d2)⟩)
      | (exact ⟨hoC.out.cellN (hoB.out.cellN (hoA.cellN d0)), hoC.out.cellN (hoB.out.cellN (hoA.cellN d1)), hoC.out.cellN (hoB.out.cellN (hoA.cellN d2))⟩)
      | (exact ⟨(hoC.out.alloc _).cellN (hoB.out.cellN (hoA.cellN d0)), (hoC.out.alloc _).cellN (hoB.out.cellN (hoA.cellN d1)), (hoC.out.alloc _).cellN (hoB.out.cellN (hoA.cellN d2))⟩))
    (first
      | (go_at_call 117; refine (HC1.out _ D0.out).mono ?_; rintro e wA ⟨q2, L2, X2, rfl, hpA, hLA, hoA⟩)
      | (refine step_icpy (by rfl) _ _ (by rfl) w (D0.out.trans hoA (by simp)) (by rfl) (some ⟨tg, 0, none⟩) 193 tc T (by rfl) HTL.out HTI.out (by decide) ?_; intro vB wB hiB hoB; obtain ⟨aB, cB, hvB⟩ := hiB.out.len; subst hvB)
      | (refine step_icpy (by rfl) _ _ (by rfl) w ((D0.out.trans hoA (by simp)).trans hoB.out (by simp)) (by rfl) ga n gc m.list (by rfl) HN.out HLI.out HNB.out ?_; intro vC wC hiC hoC; obtain ⟨aC, cC, hvC⟩ := hiC.out.len; subst hvC))
  have hFA : Fam w0 wA (RL l i j q r m ++ [GH q2 m.M]) := HF.out.drew.add (gborn hpA HK.out hLA hoA)
  have hsB := hoB.out.size
  have hsC := hoC.out.size
  obtain ⟨gB, hgB, hgB1, hgB2⟩ : ∃ gB, aB = some ⟨gB, 0, none⟩ ∧ wA.heap.size ≤ gB ∧ gB < wB.heap.size := by
    rcases hiB.out.form with ⟨_, e⟩ | ⟨g, cap, e, h1, h2, _⟩
    · have := HTL.out; rw [e] at this; cases this
    · simp only [Value.slice.injEq] at e
      exact ⟨g, e.1, h1, h2⟩
  subst hgB
  have hBF : Only [] wB (wC.alloc (.cells #[.pointer (some ⟨q2, 0, none⟩), .slice (some ⟨gB, 0, none⟩) T.length cB, .slice aC m.list.length cC] 137)) := hoC.out.alloc _
  have hborn : Born wA (wC.alloc (.cells #[.pointer (some ⟨q2, 0, none⟩), .slice (some ⟨gB, 0, none⟩) T.length cB, .slice aC m.list.length cC] 137)) (GkA wC.heap.size q2 m.col m.list) := by
    refine ⟨hoB.out.trans hBF (by simp), fun k => k = wC.heap.size ∨ k = gB ∨ (Value.slice aC m.list.length cC).ownBlock = some k, ⟨gB, cB, .slice aC m.list.length cC, T, ⟨⟨137, ?_⟩, ?_, HTL.out, HTV.out, (hiC.out.base (Nat.zero_le _)).alloc _, by omega, fun g hg => ?_⟩, fun k => Iff.rfl⟩, fun k hk => ?_⟩
    · have h7 := Row.new wC 137 [.pointer (some ⟨q2, 0, none⟩), .slice (some ⟨gB, 0, none⟩) T.length cB, .slice aC m.list.length cC]
      rw [HTL.out] at h7 ⊢
      exact h7
    · have h7 := (hiB.out.base (Nat.zero_le _)).only hBF (by simp)
      rw [HTL.out] at h7 ⊢
      exact h7
    · have := hiC.out.own g hg
      exact ⟨by omega, by omega⟩
    · rcases hk with hk | hk | hk
      · omega
      · omega
      · have := hiC.out.own k hk; omega
  have HFE := Lib.hid (hFA.add hborn)
  clear hFA hBF hborn hsB hsC hpA hLA hoA hiB hoB hiC hoC d0 d1 d2 hgB1 hgB2
  go_wp2_with fail
  exact hR.out _ _ ⟨q2, wC.heap.size, rfl, HFE.out⟩
end
end Go.Proofs.YtkjocehdbpekjaaGreat
