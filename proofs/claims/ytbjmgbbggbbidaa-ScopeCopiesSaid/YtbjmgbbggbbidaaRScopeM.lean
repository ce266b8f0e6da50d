/- Contracts of the reference's memories: Refer. -/
import Derived.Test.YtbjmgbbggbbidaaRScopeL
import Derived.Deep.Upon
namespace Go.Proofs.Ytbjmgbbggbbidaa
open Go.RowKit Go.Maps
set_option maxHeartbeats 3200000
set_option maxRecDepth 100000
set_option linter.unusedVariables false
section
variable {w w' : World} {L L' : Nat → Option Rb} {q : Nat} {M : Sc} {X : RX}
/-- Nothing is appended, as a step of a region that draws. -/
theorem step_app0 {ops : Array Oper} {o : Oper} {ac : Act} {wl : World} {K : Act → World → Prop} {Q : Exit → Act → World → Prop} {E : Prop} (hgd : o.guard = none) (s x : Operand)
    (ho : o.op = .call { callee := .builtin .append, args := #[s, x], argTypes := #[22, 22] }) (b : Option Addr) (n c : Nat) (hn : n ≤ c) (va : Option Addr) (vc : Nat) (hs : ac.eval s = .slice b n c) (hx : ac.eval x = .slice va 0 vc) (h : K (ac.put o.dst (.slice b n c)) wl) :
    if Region.wanted o (yielded ops ac.tmps) = true then Oper.wp Try.prog o ac wl K Q else E := by
  have hw : Region.wanted o (yielded ops ac.tmps) = true := by simp [Region.wanted, hgd]
  rw [if_pos hw]
  obtain ⟨i0, hi0, hz0, hz1, hz2⟩ := info_parts infoInt
  have hsrc : Src Try.prog i0.size 22 (.slice va 0 vc) 0 [] wl := by
    cases va with
    | none => exact Src.ofNil wl Try.underlying22 vc
    | some a => exact Src.ofSlice wl Try.underlying22 a 0 vc [] (by simp) (fun j u hu => by simp at hu) (fun u hu => by simp at hu)
  have hr := run_append_nothing (P := Try.prog) wl 22 22 o.type 3 i0 Try.underlying22 hi0 b n c hn (.slice va 0 vc) hsrc
  unfold Oper.wp execOp
  simp only [ho, resolve, invoke, builtin, Sem.run_bind, Sem.run_pure, Result.andThen_ok, List.map_toArray, List.map_cons, List.map_nil, hs, hx, hr]
  exact h
theorem modify_set {l : List Ob} {j : Nat} {f : Ob → Ob} {o : Ob} (h : l[j]? = some o) : l.modify j f = l.set j (f o) := by
  apply List.ext_getElem?
  intro i
  rw [List.getElem?_modify, List.getElem?_set]
  by_cases e : j = i
  · subst e; rw [h, if_pos rfl, if_pos (List.getElem?_eq_some_iff.1 h).1]; simp
  · rw [if_neg e]; simp [e]
/-- What the last store of Refer yields. -/
theorem ref_end {w2 : World} {v : Value} {x y : Int} {j g cap : Nat} {r : Value} (H : RRep w L q M X) (hj : j < M.obs.length) (hget : M.obs[j]? = some (M.ob x)) (hx : x.toNat - 1 = j) (hv : X.obv = .slice (some ⟨g, 0, none⟩) M.obs.length cap) (hs : Only [] w w2) (hi : Ints w2 w.heap.size v ((M.ob x).refs ++ [y])) :
    RDid w L q r { M with obs := M.obs.modify (x.toNat - 1) (addRef y) } (.returned r) (w2.setCell ⟨g, j * 4 + 2, none⟩ v) := by
  have hb : ∀ k, v.ownBlock = some k → L k = none := fun k hk => by
    cases e : L k with
    | none => rfl
    | some ℓ => have := H.lt k (by rw [e]; simp); have := (hi.own k hk).1; omega
  have hL := withRo_keep hb
  have e1 : M.obs[j] = M.ob x := by rw [List.getElem?_eq_getElem hj] at hget; exact Option.some.inj hget
  have h2 := (H.only0 hs).setOb (j := j) (r := 2) (x := v) (o' := addRef y (M.ob x)) (rv' := upd X.rv j v) hj hv (by omega) (by show upd X.rv j v j = v; rw [upd_same]) (fun s hs hne => by
      rw [e1, upd_same]
      match s, hs with
      | 0, _ => rfl
      | 1, _ => rfl
      | 2, _ => exact absurd rfl hne
      | 3, _ => rfl) (fun i hi => upd_other _ _ hi) (by rw [upd_same]; exact hi.base (Nat.zero_le _)) hL (fun k hk => by
      rcases withRo_new hk with e | e
      · exact Nat.lt_of_lt_of_le (H.lt k e) hs.size
      · exact (hi.own k e).2) (fun g hg => by rw [upd_same] at hg; exact withRo_own hg)
  have hgl : L g = some .obs := H.obvLab (by rw [hv]; rfl)
  rw [hx, modify_set hget]
  exact ⟨rfl, _, _, h2, fun k hk => (withRo_new hk).imp id (fun e => (hi.own k e).1), (hs.toP0 (S := fun k => L k ≠ none)).set (.inl (by rw [hgl]; simp)) v⟩
theorem rrefer_bad (w : World) (x y b : Int) (hm : Calls Try.prog 28 #[.pointer (some ⟨q, 0, none⟩), .int .i64 x, .int .i64 y] w (TwoB w (false, 3))) :
    Calls Try.prog 77 #[.pointer (some ⟨q, 0, none⟩), .int .i64 x, .int .i64 y] w (fun e w' => e = .returned (.int .i64 3) ∧ Drew w w') := by
  refine calls_abs fun R hR => ?_
  go_enter Try.func77, Try.ntmps77
  go_wp2_with fail
  refine hm.mono ?_
  rintro e _ ⟨rfl, ⟨nd, rfl⟩⟩
  go_wp2_with fail
  exact hR.out _ _ ⟨rfl, nd, rfl⟩
theorem rrefer_nil (w : World) (x y : Int) : Calls Try.prog 77 #[.pointer none, .int .i64 x, .int .i64 y] w (Exact w (.int .i64 1)) := by
  refine calls_abs fun R hR => ?_
  go_enter Try.func77, Try.ntmps77
  go_wp2_with fail
  refine (rmay_nil _ _ _).mono ?_
  rintro e _ ⟨rfl, rfl⟩
  go_wp2_with fail
  exact hR.out _ _ ⟨rfl, rfl⟩
theorem rrefer_no (w : World) (x y : Int) (hm : Calls Try.prog 28 #[.pointer (some ⟨q, 0, none⟩), .int .i64 x, .int .i64 y] w (TwoB w (false, 0))) :
    Calls Try.prog 77 #[.pointer (some ⟨q, 0, none⟩), .int .i64 x, .int .i64 y] w (fun e w' => e = .returned (.int .i64 17) ∧ Drew w w') := by
  refine calls_abs fun R hR => ?_
  go_enter Try.func77, Try.ntmps77
  go_wp2_with fail
  refine hm.mono ?_
  rintro e _ ⟨rfl, ⟨nd, rfl⟩⟩
  go_wp2_with fail
  exact hR.out _ _ ⟨rfl, nd, rfl⟩
theorem rrefer_ok (w : World) (h : RRep w L q M X) (hok : M.Ok) (x y : Int) (hx : M.inn x = true) (hm : Calls Try.prog 28 #[.pointer (some ⟨q, 0, none⟩), .int .i64 x, .int .i64 y] w (TwoB w (true, 0))) :
    Calls Try.prog 77 #[.pointer (some ⟨q, 0, none⟩), .int .i64 x, .int .i64 y] w (RDid w L q (.int .i64 0) (if y ∈ (M.ob x).refs then M else { M with obs := M.obs.modify (x.toNat - 1) (addRef y) })) := by
  refine calls_abs fun R hR => ?_
  have mx := obI_mem hx
  have H := Lib.hid h
  have hob := hok.ob
  obtain ⟨j, g, cap, ej, hj, ejn, e1, hlg, _, _, o2, _, fr, hget⟩ := h.objX mx.2.2.1 mx.2.2.2
  have f2 := fr (j * 4 + 2)
  have m2 := h.cells.2.2.1
  rw [e1] at m2
  obtain ⟨hI, hIL⟩ := h.ob.2 j _ hget
  have hrl : (M.ob x).refs.length ≤ 500 := by
    have := hok.oa _ mx.1
    exact Nat.le_trans (nodup_le this.2.2.2.2.1 this.2.2.2.2.2) hok.ob
  obtain ⟨rl, hrln⟩ : ∃ r, r = (M.ob x).refs := ⟨_, rfl⟩
  have HFIN : Hid (∀ w0 w2 v, Drew w w0 → Only [] w0 w2 → Ints w2 w0.heap.size v (rl ++ [y]) → y ∉ rl → RDid w L q (.int .i64 0) (if y ∈ (M.ob x).refs then M else { M with obs := M.obs.modify (x.toNat - 1) (addRef y) }) (.returned (.int .i64 0)) (w2.setCell ⟨g, j * 4 + 2, none⟩ v)) := by
    rintro w0 w2 v ⟨nd, rfl⟩ hs hi hn
    rw [hrln] at hi hn
    rw [if_neg hn]
    obtain ⟨a1, L2, X2, a2, a3, a4⟩ := ref_end (r := .int .i64 0) (H.out.drewN nd) hj hget ejn e1 hs hi
    exact ⟨a1, L2, X2, a2, fun k hk => by simpa using a3 k hk, ((OnlyP.refl _ w).drewN nd).trans a4 (fun x hx => .inl hx)⟩
  have HSAME : Hid (∀ w0, Drew w w0 → y ∈ rl → RDid w L q (.int .i64 0) (if y ∈ (M.ob x).refs then M else { M with obs := M.obs.modify (x.toNat - 1) (addRef y) }) (.returned (.int .i64 0)) w0) := by
    rintro w0 hd hn
    rw [hrln] at hn
    rw [if_pos hn]
    exact rdid_none H.out hd
  obtain ⟨va, vc, hv⟩ := hI.len
  have hrd := hI.read
  rw [hv, ← hrln] at hrd
  rw [hv, ← hrln] at o2
  rw [← hrln] at hrl
  have hcap : rl.length ≤ vc := by
    rcases hI.form with ⟨f1, f2⟩ | ⟨g1, c1, f1, _, _, f2, _⟩
    · rw [hrln, f2]; simp
    · rw [f1] at hv; cases hv; rw [hrln]; exact f2
  have hva : 0 < rl.length → ∃ g9, va = some ⟨g9, 0, none⟩ := fun h0 => by
    rcases hI.form with ⟨f1, f2⟩ | ⟨g1, c1, f1, _⟩
    · rw [hrln, f2] at h0; simp at h0
    · rw [f1] at hv; cases hv; exact ⟨g1, rfl⟩
  have HVA := Lib.hid hva
  have HRD := Lib.hid hrd
  have hb1 : (0 : Int) ≤ j := by omega
  have hb2 : (j : Int) < (M.obs.length : Nat) := by omega
  have hx1 := mx.2.2
  obtain ⟨n, hn⟩ : ∃ n, n = rl.length := ⟨_, rfl⟩
  rw [← hn] at hrl HRD o2 hcap HVA
  have HN := Lib.hid hn
  obtain ⟨len, hlen⟩ : ∃ z, z = M.obs.length := ⟨_, rfl⟩
  rw [← hlen] at m2 hb2 hx1 hob
  have hgq : Hid (q ∉ [g]) := by
    show q ∉ [g]
    simp; rintro rfl; have := h.Lm; rw [hlg] at this; cases this
  clear h hok hx mx e1 hget hI hIL hv hrd hrln hn hlen hj ejn hlg hva fr
  go_enter Try.func77, Try.ntmps77
  go_wp2_with fail
  refine hm.mono ?_
  rintro e _ ⟨rfl, ⟨nd, rfl⟩⟩
  have HD0 : Hid (Drew w (w.drewN nd)) := ⟨nd, rfl⟩
  have HO0 : Hid (Only [] w (w.drewN nd)) := (Only.refl _ w).drewN nd
  have HM2 : (w.drewN nd).cell? ⟨q, 2, none⟩ = some (.slice (some ⟨g, 0, none⟩) len cap) := by simpa using m2
  have HO2 : (w.drewN nd).cell? ⟨g, j * 4 + 2, none⟩ = some (.slice va n vc) := by simpa using o2
  have HF2 : (w.drewN nd).frozen? ⟨g, j * 4 + 2, none⟩ = false := by simpa using f2
  have HRD0 : Hid (Read (w.drewN nd) (.slice va n vc) rl) := HRD.out.only HO0.out (by simp)
  obtain ⟨w0, hw0⟩ : ∃ z, z = w.drewN nd := ⟨_, rfl⟩
  rw [← hw0] at HD0 HO0 HM2 HO2 HF2 HRD0 ⊢
  clear m2 o2 f2 HRD hw0 hm
  go_wp2_with fail
  go_loop [10] (fun iv => ∃ k : Nat, k ≤ n ∧ iv = .int .i64 k ∧ Hid (∀ i, i < k → gI rl i ≠ y)) (fun iv => n - (intOf iv).toNat)
  case atStart => exact ⟨0, by omega, rfl, fun i hi => by omega⟩
  case round =>
    obtain ⟨k, hk, rfl, hf⟩ := hrel
    by_cases hlt : k < n
    · have hlt' : k < rl.length := by have := HN.out; omega
      rcases HRD0.out with ⟨b, o, d, f1, g1⟩ | ⟨oa, d, f1, g1⟩
      rotate_left
      · rw [g1] at hlt'; simp at hlt'
      have e1 : va = some ⟨b, o, none⟩ := by cases f1; rfl
      subst e1
      have hck := g1 k hlt'
      obtain ⟨z, hz⟩ : ∃ z, z = gI rl k := ⟨_, rfl⟩
      rw [← hz] at hck
      have HZ := Lib.hid hz
      clear g1 hz f1
      cases he : (z == y)
      · have hzy : Hid (z ≠ y) := by show z ≠ y; simpa using he
        go_wp2_with fail
        exact ⟨⟨k + 1, by omega, by go_num, fun i hi => by
          by_cases e : i = k
          · rw [e, ← HZ.out]; exact hzy.out
          · exact hf.out i (by omega)⟩, by simp [intOf]; omega⟩
      · have hzy : Hid (y ∈ rl) := by
          have e : z = y := by simpa using he
          show y ∈ rl
          rw [← e, HZ.out, gI_get hlt']
          exact List.getElem_mem _
        go_wp2_with fail
        exact hR.out _ _ (HSAME.out _ HD0.out hzy.out)
    · obtain rfl : k = n := by omega
      have hny : Hid (y ∉ rl) := by
        show y ∉ rl
        intro hy
        obtain ⟨i, hi, e⟩ := List.mem_iff_getElem.1 hy
        exact hf.out i (by have := HN.out; omega) (by rw [gI_get hi]; exact e)
      have hx6 : x - 1 < 500 := by omega
      clear hf
      go_wp2_with fail
      have gin : (⟨g, j * 4 + 2, none⟩ : Addr).block ∈ [g] := by simp
      have hqin : (⟨q, 2, none⟩ : Addr).block ∉ [g] := hgq.out
      have hO : Only [] w0 w0.drew := (Only.refl _ _).drewN 1
      have HST0 : HasSt g (j * 4 + 2) w0.drew := has_of hO HO2 HF2
      have n5 : IntKind.i64.wrap (j : Int) = (j : Int) := IntWalk.i64_in _ (by omega)
      have hjt : (j : Int).toNat = j := by omega
      by_cases hk0 : 0 < k
      · obtain ⟨g9, rfl⟩ := HVA.out hk0
        have hag : ∀ wl, Only [] w0 wl → ∀ i u, rl[i]? = some u → wl.cell? ((⟨g9, 0, none⟩ : Addr).add i) = some (.int .i64 u) := fun wl ho i u hu => by
          rw [addr_add, Nat.zero_add]
          have hi : i < rl.length := (List.getElem?_eq_some_iff.1 hu).1
          rcases HRD0.out with ⟨b, o, d, f1, g1⟩ | ⟨oa, d, f1, g1⟩
          · cases f1
            have := g1 i hi
            rw [gI, hu, Nat.zero_add] at this
            exact ho.cell this (by simp)
          · rw [g1] at hi; simp at hi
        have HAG := Lib.hid hag
        have hn1 : ([] : List Int).length + k = k := by simp
        have hn2 : ([] ++ rl).length + 1 = k + 1 := by have := HN.out; simp; omega
        have hl3 : k ≤ 1000000 := by omega
        have hl4 : k + 1 ≤ 1000000 := by omega
        clear hag hO
        go_region_held3 (fun w' => w'.cell? ⟨q, 2, none⟩ = some (.slice (some ⟨g, 0, none⟩) len cap) ∧ HasSt g (j * 4 + 2) w')
          (first
            | (exact ⟨HM2, HST0⟩)
            | (exact ⟨hs2.cell0 HM2, has_of hs2 HO2 HF2⟩)
            | (exact ⟨hs1.cell0 HM2, has_of hs1 HO2 HF2⟩)
            | (refine ⟨?_, HasSt.alloc (by assumption) _⟩; exact (only_a1 w0 _).cell0 HM2)
            | (refine ⟨?_, HasSt.alloc (And.right (by assumption)) _⟩; first | exact (only_a1 w0 _).cell0 HM2 | exact (only_a2 w0 _ _).cell0 HM2 | exact (hs1.alloc _).cell0 HM2)
            | (refine ⟨?_, HasSt.set (has_of hs2 HO2 HF2) _⟩; exact ((Only.refl [g] w2).set (p := ⟨g, j * 4 + 2, none⟩) (.inl gin) _).cell (hs2.cell0 HM2) hqin))
          (first
            | (refine step_app (by rfl) (.tmp 50) (.tmp 51) (by rfl) w0 (by first | exact only_a1 w0 _ | exact only_a2 w0 _ _) _ [] (by rfl) (by first | exact made_alone w0 | exact made_first w0 _ _ | exact made_second w0 _ _) ⟨g9, 0, none⟩ k vc rl (by rfl) HN.out.symm (HAG.out _ (by first | exact only_a1 w0 _ | exact only_a2 w0 _ _)) hk0 k hn1 hl3 ?_; intro g1 cap1 w1 hi1 hs1 hk1; first | (have hone := hk1 (w0.heap.size + 1) (.int .i64 y) (own_succ _) (one_second w0 _ _ y)) | (have hone := hk1 w0.heap.size (.int .i64 y) (own_pred _) (one_first w0 _ _ y)) | skip)
            | (refine step_app (by rfl) (.tmp 52) (.tmp 54) (by rfl) w0 (by first | exact hs1 | exact hs1.alloc _) _ _ (by rfl) (by first | exact hi1 | exact hi1.alloc _) _ 1 1 [y] (by rfl) rfl (by first | exact news_of_one hone | exact news_of_new w1 _ y) (by omega) (k + 1) hn2 hl4 ?_; intro g2 cap2 w2 hi2 hs2 hk2; have cst := hs2.cell0 HO2; have fst := hs2.frozen0 HO2 HF2))
        all_goals (
          have hd := HFIN.out _ w2 _ HD0.out hs2 hi2 hny.out
          have HD := Lib.hid hd
          clear hd hi1 hi2 hk1 hk2
          go_wp2_with fail
          exact hR.out _ _ HD.out)
      · obtain rfl : k = 0 := by omega
        have hnil : rl = [] := List.eq_nil_of_length_eq_zero HN.out.symm
        subst hnil
        clear hO
        go_region_held3 (fun w' => w'.cell? ⟨q, 2, none⟩ = some (.slice (some ⟨g, 0, none⟩) len cap) ∧ HasSt g (j * 4 + 2) w')
          (first
            | (exact ⟨HM2, HST0⟩)
            | (exact ⟨hs2.cell0 HM2, has_of hs2 HO2 HF2⟩)
            | (exact ⟨(only_a2 w0 _ _).cell0 HM2, has_of (only_a2 w0 _ _) HO2 HF2⟩)
            | (exact ⟨(only_a1 w0 _).cell0 HM2, has_of (only_a1 w0 _) HO2 HF2⟩)
            | (refine ⟨?_, HasSt.alloc (by assumption) _⟩; exact (only_a1 w0 _).cell0 HM2)
            | (refine ⟨?_, HasSt.alloc (And.right (by assumption)) _⟩; first | exact (only_a1 w0 _).cell0 HM2 | exact (only_a2 w0 _ _).cell0 HM2)
            | (refine ⟨?_, HasSt.set (has_of hs2 HO2 HF2) _⟩; exact ((Only.refl [g] w2).set (p := ⟨g, j * 4 + 2, none⟩) (.inl gin) _).cell (hs2.cell0 HM2) hqin))
          (first
            | (refine step_app0 (by rfl) (.tmp 50) (.tmp 51) (by rfl) _ 0 0 (Nat.le_refl 0) va vc (by rfl) (by rfl) ?_)
            | (refine step_app (by rfl) (.tmp 52) (.tmp 54) (by rfl) w0 (only_a2 w0 _ _) _ [] (by rfl) (by first | exact made_first w0 _ _ | exact made_second w0 _ _) _ 1 1 [y] (by rfl) rfl (by first | exact news_of_one (one_second w0 _ _ y) | exact news_of_one (one_first w0 _ _ y)) (by omega) 1 rfl (by omega) ?_; intro g2 cap2 w2 hi2 hs2 hk2; have cst := hs2.cell0 HO2; have fst := hs2.frozen0 HO2 HF2))
        all_goals (
          have hd := HFIN.out _ w2 _ HD0.out hs2 hi2 hny.out
          have HD := Lib.hid hd
          clear hd hi2 hk2
          go_wp2_with fail
          exact hR.out _ _ HD.out)
theorem rrefer_rep (w : World) (h : RRep w L q M X) (hok : M.Ok) (x y : Int) :
    Calls Try.prog 77 #[.pointer (some ⟨q, 0, none⟩), .int .i64 x, .int .i64 y] w (RDid w L q (.int .i64 (M.refer x y).1) (M.refer x y).2) := by
  have hm := rmay_rep w h hok x y
  cases hb : (M.inn x && M.inn y)
  · rw [show M.may x y = (false, 3) by unfold Sc.may; rw [hb]; rfl] at hm
    refine (rrefer_bad w x y 3 hm).mono ?_
    rintro e _ ⟨rfl, hd⟩
    rw [show M.refer x y = (3, M) by unfold Sc.refer; rw [hb]; rfl]
    exact rdid_none h hd
  · cases ho : M.outerN 8 (M.ob y).area (M.ob x).area
    · rw [show M.may x y = (false, 0) by unfold Sc.may; rw [hb, ho]; rfl] at hm
      refine (rrefer_no w x y hm).mono ?_
      rintro e _ ⟨rfl, hd⟩
      rw [show M.refer x y = (17, M) by unfold Sc.refer; rw [hb, ho]; rfl]
      exact rdid_none h hd
    · rw [show M.may x y = (true, 0) by unfold Sc.may; rw [hb, ho]; rfl] at hm
      rw [show M.refer x y = (0, if y ∈ (M.ob x).refs then M else { M with obs := M.obs.modify (x.toNat - 1) (addRef y) }) by unfold Sc.refer; rw [hb, ho]; rfl]
      simp only [Bool.and_eq_true] at hb
      exact rrefer_ok w h hok x y hb.1 hm
end
end Go.Proofs.Ytbjmgbbggbbidaa
