/- Lemmas of this claim. -/
import Derived.Test.YthflghdaejbdkaaKRObjH
import Derived.Deep.AppendLies
import Derived.Deep.Upon
namespace Go.Proofs.Ythflghdaejbdkaa
open Go.RowKit Go.Maps
set_option maxHeartbeats 6400000
set_option maxRecDepth 100000
set_option linter.unusedVariables false
theorem step_bapp {ops : Array Oper} {o : Oper} {ac : Act} {wl : World} {K : Act → World → Prop} {Q : Exit → Act → World → Prop} {E : Prop} (hgd : o.guard = none) (s x : Operand)
    (ho : o.op = .call { callee := .builtin .append, args := #[s, x], argTypes := #[63, 63] }) (w0 : World) (hO : Only [] w0 wl)
    (gs : Nat) (hs : ac.eval s = .slice (some ⟨gs, 0, none⟩) 0 0) (hown : Bls wl w0.heap.size (.slice (some ⟨gs, 0, none⟩) 0 0) []) (ad : Addr) (m c : Nat) (l : List Bool) (hx : ac.eval x = .slice (some ad) m c) (hl : l.length = m) (hnews : ∀ i, i < l.length → w0.cell? (ad.add i) = some (.bool (gB l i))) (hm : 0 < m) (hb : m ≤ 1000000)
    (h : ∀ g cap w', Hid (Bls w' w0.heap.size (.slice (some ⟨g, 0, none⟩) m cap) l) → Hid (Only [] w0 w') → Hid (Only [gs] wl w') → Hid (g = gs ∨ g = wl.heap.size) → K (ac.put o.dst (.slice (some ⟨g, 0, none⟩) m cap)) w') :
    if Region.wanted o (yielded ops ac.tmps) = true then Oper.wp Try.prog o ac wl K Q else E := by
  obtain ⟨i0, hi0, hz0, hz1, hz2⟩ := info_parts infoBool
  refine step_append_lies (P := Try.prog) _ hgd s x 63 ho w0.heap.size 4 i0 (.bool false) 1 1 Try.underlying63 hi0 hz0 hz1 hz2 rfl (by omega) (.slice (some ⟨gs, 0, none⟩) 0 0) 0 [] hs hown ad m c (l.map Value.bool) hx (by simp [hl]) (fun j u hu => ?_) (fun u hu => ?_) hm (by simp only [maxLen]; omega) (by omega) hO.size wl.heap.size rfl ?_
  · simp only [List.getElem?_map, Option.map_eq_some_iff] at hu
    obtain ⟨y, hy, rfl⟩ := hu
    have hj := (List.getElem?_eq_some_iff.1 hy).1
    have h1 := hnews j hj
    rw [gB, hy] at h1
    exact hO.cell h1 (by simp)
  · simp only [List.mem_map] at hu
    obtain ⟨y, _, rfl⟩ := hu
    rfl
  · intro g cap w' h1 h2 h3 h4
    rw [Nat.zero_add] at h1 ⊢
    refine h g cap w' ?_ (hO.grown h2 (fun k hk => .inr (hown.own k hk).1)) ((Only.refl [gs] wl).grown h2 (fun k hk => by cases hk; exact .inl (by simp))) ?_
    · show Bls _ _ _ _
      unfold Bls
      rw [hl]
      exact h1
    · show _ ∨ _
      rcases h3 with h3 | h3
      · cases h3; exact .inl rfl
      · exact .inr h3
theorem step_bcpy {ops : Array Oper} {o : Oper} {ac : Act} {wl : World} {K : Act → World → Prop} {Q : Exit → Act → World → Prop} {E : Prop} (hgd : o.guard = none) (s x : Operand)
    (ho : o.op = .call { callee := .builtin .append, args := #[s, x], argTypes := #[63, 63] }) (w0 : World) (hO : Only [] w0 wl)
    (gs : Nat) (hs : ac.eval s = .slice (some ⟨gs, 0, none⟩) 0 0) (hown : Bls wl w0.heap.size (.slice (some ⟨gs, 0, none⟩) 0 0) []) (va : Option Addr) (n vc : Nat) (l : List Bool) (hx : ac.eval x = .slice va n vc) (hl : l.length = n) (hv : BArg w0 (.slice va n vc) l) (hb : n ≤ 1000000)
    (h : ∀ g cap w', Hid (Bls w' w0.heap.size (.slice (some ⟨g, 0, none⟩) n cap) l) → Hid (Only [] w0 w') → Hid (Only [gs] wl w') → Hid (g = gs ∨ g = wl.heap.size) → K (ac.put o.dst (.slice (some ⟨g, 0, none⟩) n cap)) w') :
    if Region.wanted o (yielded ops ac.tmps) = true then Oper.wp Try.prog o ac wl K Q else E := by
  by_cases h0 : n = 0
  · subst h0
    have hnil : l = [] := List.eq_nil_of_length_eq_zero hl
    subst hnil
    have hw : Region.wanted o (yielded ops ac.tmps) = true := by simp [Region.wanted, hgd]
    rw [if_pos hw]
    obtain ⟨i0, hi0, hz0, hz1, hz2⟩ := info_parts infoBool
    have hsrc : Src Try.prog i0.size 63 (.slice va 0 vc) 0 [] wl := by
      cases va with
      | none => exact Src.ofNil wl Try.underlying63 vc
      | some a => exact Src.ofSlice wl Try.underlying63 a 0 vc [] (by simp) (fun j u hu => by simp at hu) (fun u hu => by simp at hu)
    have hr := run_append_nothing (P := Try.prog) wl 63 63 o.type 4 i0 Try.underlying63 hi0 (some ⟨gs, 0, none⟩) 0 0 (Nat.le_refl _) (.slice va 0 vc) hsrc
    unfold Oper.wp execOp
    simp only [ho, resolve, invoke, builtin, Sem.run_bind, Sem.run_pure, Result.andThen_ok, List.map_toArray, List.map_cons, List.map_nil, hs, hx, hr]
    exact h gs 0 wl hown hO (Only.refl _ _) (.inl rfl)
  · rcases hv with ⟨_, e⟩ | ⟨ad, c, h1, h2⟩
    · rw [e] at hl; simp at hl; omega
    · simp only [Value.slice.injEq] at h1
      obtain ⟨rfl, _, rfl⟩ := h1
      exact step_bapp hgd s x ho w0 hO gs hs hown ad n vc l hx hl h2 (by omega) hb h
theorem bmade_a (w : World) : Bls (w.alloc (.cells #[] 4)).drew w.heap.size (.slice (some ⟨w.heap.size, 0, none⟩) 0 0) [] := Bls.made w
theorem bmade_b (w : World) (C : Array Value) (T : TypeId) : Bls ((w.alloc (.cells #[] 4)).alloc (.cells C T)).drew w.heap.size (.slice (some ⟨w.heap.size, 0, none⟩) 0 0) [] := (Bls.made w).alloc _
theorem bmade_c (w : World) (C : Array Value) (T : TypeId) : Bls ((w.alloc (.cells C T)).alloc (.cells #[] 4)).drew w.heap.size (.slice (some ⟨w.heap.size + 1, 0, none⟩) 0 0) [] := by
  have := (Bls.made (w.alloc (.cells C T))).base (b := w.heap.size) (by simp)
  rw [World.size_alloc] at this
  exact this
theorem only_al (w : World) (o : Obj) : Only [] w (w.alloc o).drew := ((Only.refl [] w).alloc o).drew
theorem only_al2 (w : World) (o o' : Obj) : Only [] w ((w.alloc o).alloc o').drew := (((Only.refl [] w).alloc o).alloc o').drew
theorem zeros_new (w : World) (n : Nat) (hn : n ≤ 1000000) (C : Array Value) (hC : C.toList = List.replicate n (.int .i64 0)) : Ints (w.alloc (.cells C 3)) w.heap.size (.slice (some ⟨w.heap.size, 0, none⟩) n n) (List.replicate n 0) := by
  have hr := Row.new w 3 C.toList
  have h := Ints.ofRow (base := w.heap.size) (cap := n) (l := List.replicate n 0) (Nat.le_refl _) hr (by rw [hC]; simp) (by rw [hC]; simp) (by simp) (by simp only [maxLen]; omega)
  rw [List.length_replicate] at h
  exact h
section
variable {L : Nat → Option Gb} {hb : Nat} {M : Hp} {X : GX}
theorem gnewObject_nil (w : World) (c : Int) (v : Value) : Calls Try.prog 21 #[.pointer none, .int .i64 c, v] w (Exact w (.tuple #[.int .i64 0, .int .i64 1])) := by
  refine calls_abs fun R hR => ?_
  have h1 := gthere_nil w
  go_enter Try.func21, Try.ntmps21
  go_wp2_with fail
  refine h1.mono ?_
  rintro e _ ⟨rfl, rfl⟩
  go_wp2_with fail
  exact hR.out _ _ ⟨rfl, rfl⟩
theorem gnewObject_rep (w : World) (h : GRep w L hb M X) (hk : M.Ok) (c : Int) (v : Value) (l : List Bool) (hv : BArg w v l) (hl : l.length ≤ 1000000) :
    Calls Try.prog 21 #[.pointer (some ⟨hb, 0, none⟩), .int .i64 c, v] w (GDid w L hb (.tuple #[.int .i64 (M.newObject c l).1, .int .i64 (M.newObject c l).2.1]) (M.newObject c l).2.2) := by
  refine calls_abs fun R hR => ?_
  have h1 := gthere_rep w h
  obtain ⟨va, vc, rfl⟩ := hv.len
  obtain ⟨n, hn⟩ : ∃ z, z = l.length := ⟨_, rfl⟩
  by_cases hc : c < 0 ∨ 10 ≤ c ∨ 7 < l.length
  · have hbad : Hid (M.newObject c l = (0, 1, M)) := by show _ = _; unfold Hp.newObject; rw [if_pos hc]
    have H := Lib.hid h
    rw [← hn] at hc hl ⊢
    clear hv h hk hn
    by_cases c1 : c < 0
    · clear hc
      go_enter Try.func21, Try.ntmps21
      go_wp2_with fail
      refine h1.mono ?_
      rintro e _ ⟨rfl, rfl⟩
      go_wp2_with fail
      refine hR.out _ _ ?_
      rw [hbad.out]
      exact GDid.none0 H.out (Only.refl _ _)
    · by_cases c2 : 10 ≤ c
      · clear hc
        go_enter Try.func21, Try.ntmps21
        go_wp2_with fail
        refine h1.mono ?_
        rintro e _ ⟨rfl, rfl⟩
        go_wp2_with fail
        refine hR.out _ _ ?_
        rw [hbad.out]
        exact GDid.none0 H.out (Only.refl _ _)
      · have c3 : (7 : Int) < n := by omega
        clear hc
        go_enter Try.func21, Try.ntmps21
        go_wp2_with fail
        refine h1.mono ?_
        rintro e _ ⟨rfl, rfl⟩
        go_wp2_with fail
        refine hR.out _ _ ?_
        rw [hbad.out]
        exact GDid.none0 H.out (Only.refl _ _)
  · have c1 : ¬ c < 0 := by omega
    have c2 : ¬ 10 ≤ c := by omega
    have c3 : ¬ (7 : Int) < n := by omega
    have hgood : M.newObject c l = M.add (objT c l) := by unfold Hp.newObject; rw [if_neg hc]
    have hot := objT_ok hc
    rw [hgood] at hR
    obtain ⟨i0, hi0, hz0, hz1, hz2⟩ := info_parts infoInt
    obtain ⟨C, hC⟩ : ∃ C : Array Value, C.toList = List.replicate n (.int .i64 0) := ⟨(List.replicate n (.int .i64 0)).toArray, by simp⟩
    have hmk : ∀ wx, (Instr.makeSlice 23 (.int .i64 (n : Int)) (.int .i64 (n : Int))).run Try.prog wx = .ok (.slice (some ⟨wx.heap.size, 0, none⟩) n n) (wx.alloc (.cells C 3)) := fun wx => by
      rw [run_makeSlice (P := Try.prog) (w := wx) 23 3 i0 _ Try.underlying23 hi0 hz0 .i64 .i64 _ _ (by omega) (by omega) (by rw [hz1]; omega) (by rw [hz2]; omega) (by omega), hz1]
      have e : madeCells (Value.int .i64 0).cells (n * 1) = C := by
        rw [← Array.toList_inj, made_ints, hC]
      simp only [Int.toNat_natCast]
      rw [e]
    have HMADE : Hid (∀ wx (rv sv : Value), Only [] w wx → Bls wx w.heap.size rv l → Ints wx w.heap.size sv (List.replicate n 0) → (∀ g, rv.ownBlock = some g → sv.ownBlock ≠ some g) →
        Calls Try.prog 42 #[.pointer (some ⟨hb, 0, none⟩), .agg #[.int .i64 2, .int .i64 c, rv, sv, .slice none 0 0], .bool false] wx (GDid w L hb (.tuple #[.int .i64 (M.add (objT c l)).1, .int .i64 (M.add (objT c l)).2.1]) (M.add (objT c l)).2.2)) := fun wx rv sv ho hrv hsv hd =>
      gmade_rep wx h hk ho (objT c l) hot.1 hot.2 rv sv hrv (by rw [hn] at hsv; exact hsv) hd false (fun _ => by simp [objT]; omega)
    have HC := Lib.hid hC
    have hn6 : n ≤ 1000000 := by omega
    rw [← hn] at hv hl ⊢
    clear h hk hot hgood hc hi0 hz0 hz1 hz2 hC hl
    obtain ⟨F, hF⟩ : ∃ F : Ending → World → Prop, F = GDid w L hb (.tuple #[.int .i64 (M.add (objT c l)).1, .int .i64 (M.add (objT c l)).2.1]) (M.add (objT c l)).2.2 := ⟨_, rfl⟩
    rw [← hF] at HMADE
    replace hR : Hid (∀ e w', F e w' → R e w') := by rw [hF]; exact hR
    have HRET : Hid (∀ e w', F e w' → e = .returned (.tuple #[.int .i64 (M.add (objT c l)).1, .int .i64 (M.add (objT c l)).2.1])) := fun e w' he => by rw [hF] at he; exact he.1
    clear hF
    obtain ⟨r0, hr0⟩ : ∃ z, z = (M.add (objT c l)).1 := ⟨_, rfl⟩
    obtain ⟨r1, hr1⟩ : ∃ z, z = (M.add (objT c l)).2.1 := ⟨_, rfl⟩
    rw [← hr0, ← hr1] at HRET
    clear hr0 hr1
    have HLN : Hid (l.length = n) := hn.symm
    have HV := Lib.hid hv
    have HABC : Hid (∀ g cap wx, Hid (Bls wx w.heap.size (.slice (some ⟨g, 0, none⟩) n cap) l) → Hid (Only [] w wx) →
        Calls Try.prog 42 #[.pointer (some ⟨hb, 0, none⟩), .agg #[.int .i64 2, .int .i64 c, .slice (some ⟨g, 0, none⟩) n cap, .slice (some ⟨wx.heap.size, 0, none⟩) n n, .slice none 0 0], .bool false] (wx.alloc (.cells C 3)) F) := fun g cap wx h1 h2 => by
      refine HMADE.out _ _ _ (h2.out.alloc _) (h1.out.alloc _) ((zeros_new wx n hn6 C HC.out).base h2.out.size) (fun k hk => ?_)
      cases hk
      have := (h1.out.own g rfl).2
      simp [Value.ownBlock]
      omega
    have HACB : Hid (∀ g cap wx, Hid (Bls wx w.heap.size (.slice (some ⟨g, 0, none⟩) n cap) l) → Hid (Only [] w wx) → Hid (Only [w.heap.size] ((w.alloc (.cells #[] 4)).alloc (.cells C 3)).drew wx) → Hid (g = w.heap.size ∨ g = ((w.alloc (.cells #[] 4)).alloc (.cells C 3)).drew.heap.size) →
        Calls Try.prog 42 #[.pointer (some ⟨hb, 0, none⟩), .agg #[.int .i64 2, .int .i64 c, .slice (some ⟨g, 0, none⟩) n cap, .slice (some ⟨w.heap.size + 1, 0, none⟩) n n, .slice none 0 0], .bool false] wx F) := fun g cap wx h1 h2 h3 h4 => by
      have hz := zeros_new (w.alloc (.cells #[] 4)) n hn6 C HC.out
      rw [World.size_alloc] at hz
      refine HMADE.out _ _ _ h2.out h1.out (((hz.base (b := w.heap.size) (by omega)).drew).only h3.out (fun k hk => ?_)) (fun k hk => ?_)
      · cases hk; simp
      · cases hk
        have := h4.out
        simp [Value.ownBlock] at this ⊢
        omega
    have HCAB : Hid (∀ g cap wx, Hid (Bls wx w.heap.size (.slice (some ⟨g, 0, none⟩) n cap) l) → Hid (Only [] w wx) → Hid (Only [w.heap.size + 1] ((w.alloc (.cells C 3)).alloc (.cells #[] 4)).drew wx) → Hid (g = w.heap.size + 1 ∨ g = ((w.alloc (.cells C 3)).alloc (.cells #[] 4)).drew.heap.size) →
        Calls Try.prog 42 #[.pointer (some ⟨hb, 0, none⟩), .agg #[.int .i64 2, .int .i64 c, .slice (some ⟨g, 0, none⟩) n cap, .slice (some ⟨w.heap.size, 0, none⟩) n n, .slice none 0 0], .bool false] wx F) := fun g cap wx h1 h2 h3 h4 => by
      have hz := ((zeros_new w n hn6 C HC.out).alloc (.cells #[] 4)).drew
      refine HMADE.out _ _ _ h2.out h1.out (hz.only h3.out (fun k hk => ?_)) (fun k hk => ?_)
      · cases hk; simp
      · cases hk
        have := h4.out
        simp [Value.ownBlock] at this ⊢
        omega
    clear hv hn HMADE
    go_enter Try.func21, Try.ntmps21
    go_wp2_with fail
    refine h1.mono ?_
    rintro e _ ⟨rfl, rfl⟩
    go_wp2_with fail
    clear h1
    go_region_held3 (fun _ => True)
      (exact trivial)
      (first
        | (refine step_bcpy (by rfl) (.tmp 26) (.tmp 27) (by rfl) w (by with_reducible exact only_al w _) w.heap.size (by rfl) (by with_reducible exact bmade_a w) va n vc l (by rfl) HLN.out HV.out hn6 ?_; intro g cap w9 k1 k2 k3 k4; have HM := HABC.out g cap w9 k1 k2)
        | (refine step_bcpy (by rfl) (.tmp 26) (.tmp 27) (by rfl) w (by with_reducible exact only_al2 w _ _) w.heap.size (by rfl) (by with_reducible exact bmade_b w _ _) va n vc l (by rfl) HLN.out HV.out hn6 ?_; intro g cap w9 k1 k2 k3 k4; have HM := HACB.out g cap w9 k1 k2 k3 k4)
        | (refine step_bcpy (by rfl) (.tmp 26) (.tmp 27) (by rfl) w (by with_reducible exact only_al2 w _ _) (w.heap.size + 1) (by rfl) (by with_reducible exact bmade_c w _ _) va n vc l (by rfl) HLN.out HV.out hn6 ?_; intro g cap w9 k1 k2 k3 k4; have HM := HCAB.out g cap w9 k1 k2 k3 k4)
        | (go_at_call 42; refine HM.mono ?_; intro e w9 hf; obtain rfl := HRET.out _ _ hf))
    all_goals
      go_wp2_with fail
      exact hR.out _ _ hf
end
end Go.Proofs.Ythflghdaejbdkaa
