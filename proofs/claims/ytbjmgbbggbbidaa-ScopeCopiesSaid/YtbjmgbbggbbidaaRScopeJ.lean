/- Contracts of the reference's memories: stores into objects and portals; Leave. -/
import Derived.Test.YtbjmgbbggbbidaaRScopeI
namespace Go.Proofs.Ytbjmgbbggbbidaa
open Go.RowKit Go.Maps
set_option maxHeartbeats 3200000
set_option maxRecDepth 100000
set_option linter.unusedVariables false
section
variable {w w' : World} {L L' : Nat → Option Rb} {q : Nat} {M : Sc} {X : RX}
/-- A field of an object is stored. -/
theorem RRep.setOb (h : RRep w L q M X) {j g cap : Nat} (hj : j < M.obs.length) (hv : X.obv = .slice (some ⟨g, 0, none⟩) M.obs.length cap) {r : Nat} (hr : r < 4) {x : Value} {o' : Ob} {rv' : Nat → Value} (h1 : o'.fld (rv' j) r = x) (h2 : ∀ s, s < 4 → s ≠ r → o'.fld (rv' j) s = M.obs[j].fld (X.rv j) s)
    (h3 : ∀ i, i ≠ j → rv' i = X.rv i) (h4 : Ints w 0 (rv' j) o'.refs) (hL : ∀ k, L k ≠ none → L' k = L k) (hlt : ∀ k, L' k ≠ none → k < w.heap.size) (h5 : ∀ g, (rv' j).ownBlock = some g → L' g = some .ro) :
    RRep (w.setCell ⟨g, j * 4 + r, none⟩ x) L' q { M with obs := M.obs.set j o' } { X with rv := rv' } := by
  rcases h.ob.1 with ⟨e1, _⟩ | ⟨g', cap', cs, e1, e2, e3, e4, e5, e6, e7⟩
  · rw [e1] at hj; simp at hj
  · rw [hv] at e1
    simp only [Value.slice.injEq, Option.some.injEq, Addr.mk.injEq] at e1
    obtain ⟨⟨rfl, _⟩, _, rfl⟩ := e1
    have hO : OnlyP (fun k => L k = some .obs) w (w.setCell ⟨g, j * 4 + r, none⟩ x) := (OnlyP.refl _ w).set (.inl e6) x
    have hne : ∀ k ℓ, ℓ ≠ Rb.obs → L k = some .obs → L k ≠ some ℓ := fun k ℓ h1 hk e => by rw [hk] at e; cases e; exact h1 rfl
    obtain ⟨T1, m1⟩ := h.mem
    obtain ⟨T2, c2, m2, n2⟩ := h.sr
    obtain ⟨T3, c3, m3, n3⟩ := h.pr
    have hgl : L' g = some .obs := rlab_of hL e6
    refine ⟨fun k hk => by rw [show (w.setCell ⟨g, j * 4 + r, none⟩ x).heap.size = w.heap.size by simp [World.setCell]]; exact hlt k hk, ⟨T1, hO.row m1 (fun y => hne _ .mem (by simp) y h.Lm)⟩, rlab_of hL h.Lm, h.sz.onlyP hO (fun b hb y => hne b .ro (by simp) y (h.Ls b hb)), fun b hb => rlab_of hL (h.Ls b hb), ⟨T2, c2, hO.row m2 (fun y => hne _ .stk (by simp) y h.Lsg), n2⟩, rlab_of hL h.Lsg,
      fun t ht => ⟨(h.st t ht).1.onlyP hO (fun b hb y => hne b .ro (by simp) y ((h.st t ht).2 b hb)), fun b hb => rlab_of hL ((h.st t ht).2 b hb)⟩, ⟨.inr ⟨g, cap, cs.set (j * 4 + r) x, by rw [List.length_set]; exact hv, e2.set _ _, by rw [List.length_set]; exact e3, by rw [List.length_set]; exact e4, e5, hgl, fun i o hi s hs => ?_⟩, fun i o hi => ?_⟩, ⟨T3, c3, hO.row m3 (fun y => hne _ .por (by simp) y h.Lpg), n3⟩, rlab_of hL h.Lpg⟩
    · have hl : j * 4 + r < cs.length := by omega
      rw [List.getElem?_set] at hi
      by_cases e : j = i
      · subst e
        rw [if_pos rfl, if_pos hj] at hi
        cases hi
        rw [List.getElem?_set]
        by_cases e8 : s = r
        · subst e8; rw [if_pos rfl, if_pos hl, h1]
        · rw [if_neg (by omega), h2 s hs e8]
          exact e7 j _ (List.getElem?_eq_getElem hj) s hs
      · rw [if_neg e] at hi
        show (cs.set (j * 4 + r) x)[i * 4 + s]? = some (o.fld (rv' i) s)
        rw [List.getElem?_set, if_neg (by omega), h3 i (Ne.symm e)]
        exact e7 i o hi s hs
    · rw [List.getElem?_set] at hi
      by_cases e : j = i
      · subst e
        rw [if_pos rfl, if_pos hj] at hi
        cases hi
        refine ⟨h4.onlyP hO (fun b hb y => ?_), h5⟩
        have := h5 b hb
        rw [rlab_of hL y] at this
        cases this
      · rw [if_neg e] at hi
        show Ints _ 0 (rv' i) o.refs ∧ ∀ g, (rv' i).ownBlock = some g → L' g = some .ro
        rw [h3 i (Ne.symm e)]
        have h8 := h.ob.2 i o hi
        exact ⟨h8.1.onlyP hO (fun b hb y => hne b .ro (by simp) y (h8.2 b hb)), fun b hb => rlab_of hL (h8.2 b hb)⟩
theorem RRep.setGone (h : RRep w L q M X) {j g cap : Nat} (hj : j < M.obs.length) (hv : X.obv = .slice (some ⟨g, 0, none⟩) M.obs.length cap) :
    RRep (w.setCell ⟨g, j * 4 + 3, none⟩ (.bool true)) L q { M with obs := M.obs.set j { M.obs[j] with gone := true } } X := by
  have h8 := h.ob.2 j _ (List.getElem?_eq_getElem hj)
  exact h.setOb (rv' := X.rv) hj hv (r := 3) (by omega) rfl (fun s hs hne => by match s, hs with | 0, _ => rfl | 1, _ => rfl | 2, _ => rfl | 3, _ => exact absurd rfl hne) (fun _ _ => rfl) h8.1 (fun _ _ => rfl) h.lt h8.2
/-- A portal is stored. -/
theorem RRep.setPor (h : RRep w L q M X) (a : Nat) (x : Int) : RRep (w.setCell ⟨X.pg, a, none⟩ (.int .i64 x)) L q { M with por := upd M.por a x } X := by
  have hO : OnlyP (fun k => L k = some .por) w (w.setCell ⟨X.pg, a, none⟩ (.int .i64 x)) := (OnlyP.refl _ w).set (.inl h.Lpg) _
  have hne : ∀ k ℓ, ℓ ≠ Rb.por → L k = some .por → L k ≠ some ℓ := fun k ℓ h1 hk e => by rw [hk] at e; cases e; exact h1 rfl
  obtain ⟨T1, m1⟩ := h.mem
  obtain ⟨T2, c2, m2, n2⟩ := h.sr
  obtain ⟨T3, c3, m3, n3⟩ := h.pr
  refine ⟨fun k hk => by rw [show (w.setCell ⟨X.pg, a, none⟩ (.int .i64 x)).heap.size = w.heap.size by simp [World.setCell]]; exact h.lt k hk, ⟨T1, hO.row m1 (fun y => hne _ .mem (by simp) y h.Lm)⟩, h.Lm, h.sz.onlyP hO (fun b hb y => hne b .ro (by simp) y (h.Ls b hb)), h.Ls, ⟨T2, c2, hO.row m2 (fun y => hne _ .stk (by simp) y h.Lsg), n2⟩, h.Lsg,
    fun t ht => ⟨(h.st t ht).1.onlyP hO (fun b hb y => hne b .ro (by simp) y ((h.st t ht).2 b hb)), (h.st t ht).2⟩, h.ob.only hO (fun k hk => ⟨hne k .obs (by simp) hk, hne k .ro (by simp) hk⟩), ⟨T3, _, m3.set a _, fun b hb => ?_⟩, h.Lpg⟩
  show (c3.set a (.int .i64 x))[b]? = some (.int .i64 (upd M.por a x b))
  rw [List.getElem?_set]
  by_cases e : a = b
  · subst e
    have hl : a < c3.length := (List.getElem?_eq_some_iff.1 (n3 a hb)).1
    rw [if_pos rfl, if_pos hl, upd_same]
  · rw [if_neg e, upd_other _ _ (Ne.symm e)]; exact n3 b hb
/-- The first k objects gone through. -/
def goneK (l : List Ob) (a : Int) (k : Nat) : List Ob := (l.take k).map (goneIn a) ++ l.drop k
theorem goneK_len (l : List Ob) (a : Int) (k : Nat) : (goneK l a k).length = l.length := by unfold goneK; simp; omega
theorem goneK_at (l : List Ob) (a : Int) {k : Nat} (hk : k < l.length) : (goneK l a k)[k]? = some l[k] := by
  unfold goneK
  rw [List.getElem?_append_right (by simp; omega), List.getElem?_drop]
  simp
  rw [show k + (k - min k l.length) = k by omega]
  exact List.getElem?_eq_getElem hk
theorem goneK_step (l : List Ob) (a : Int) {k : Nat} (hk : k < l.length) : goneK l a (k + 1) = (goneK l a k).set k (goneIn a l[k]) := by
  apply List.ext_getElem?
  intro i
  unfold goneK
  rw [List.getElem?_set]
  by_cases hi : i < k
  · rw [if_neg (by omega), List.getElem?_append_left (by simp; omega), List.getElem?_append_left (by simp; omega)]
    simp only [List.getElem?_map, List.getElem?_take]
    rw [if_pos (by omega), if_pos hi]
  · by_cases e : i = k
    · subst e
      rw [if_pos rfl, if_pos (by simp; omega), List.getElem?_append_left (by simp; omega)]
      simp only [List.getElem?_map, List.getElem?_take]
      rw [if_pos (by omega), List.getElem?_eq_getElem hk]
      rfl
    · rw [if_neg (by omega), List.getElem?_append_right (by simp; omega), List.getElem?_append_right (by simp; omega)]
      simp only [List.getElem?_drop, List.length_map, List.length_take]
      congr 1; omega
theorem goneK_all (l : List Ob) (a : Int) : goneK l a l.length = l.map (goneIn a) := by unfold goneK; simp
theorem set_same {l : List Ob} {k : Nat} {o : Ob} (h : l[k]? = some o) : l.set k o = l := by
  apply List.ext_getElem?
  intro i
  rw [List.getElem?_set]
  by_cases e : k = i
  · subst e; rw [if_pos rfl, if_pos (List.getElem?_eq_some_iff.1 h).1, h]
  · rw [if_neg e]
theorem rleave_bad (w : World) (h : RRep w L q M X) (t : Int) (hT : isT t = false) : Calls Try.prog 75 #[.pointer (some ⟨q, 0, none⟩), .int .i64 t] w (Exact w (.tuple #[.int .i64 0, .int .i64 1])) := by
  refine calls_abs fun R hR => ?_
  have hi := risThread_rep w h t
  rw [hT] at hi
  clear hT h
  go_enter Try.func75, Try.ntmps75
  go_wp2_with fail
  refine hi.mono ?_
  rintro e _ ⟨rfl, rfl⟩
  go_wp2_with fail
  exact hR.out _ _ ⟨rfl, rfl⟩
def RDidN (w : World) (L : Nat → Option Rb) (q : Nat) (r : Int × Int × Sc) (e : Ending) (w' : World) : Prop := RDid w L q (.tuple #[.int .i64 r.1, .int .i64 r.2.1]) r.2.2 e w'
theorem rleave_in (w : World) (h : RRep w L q M X) (hok : M.Ok) (t : Nat) (ht : t < 5) :
    Calls Try.prog 75 #[.pointer (some ⟨q, 0, none⟩), .int .i64 t] w (RDidN w L q (M.leave t)) := by
  refine calls_abs fun R hR => ?_
  have hi := risThread_rep w h t
  have hTt : isT (t : Int) = true := by unfold isT; simp; omega
  rw [hTt] at hi
  have hd0 : Hid (M.leave t = if (M.stk t).length < 2 then (0, 13, M) else (top (M.stk t), 0, if 2 ≤ top (M.stk t) ∧ (M.popped t).used (top (M.stk t)) = false then (M.popped t).reset (top (M.stk t)) else M.popped t)) := by
    show _ = _; unfold Sc.leave; rw [hTt]; rfl
  obtain ⟨g, cap, e1, k1, f1, hg, hc⟩ := h.stk hok.toS ht
  have m1 := h.cells.2.1
  have hl := hok.s1 t ht
  have hta := hok.sa t ht _ (top_mem hl.1)
  have b1 : (0 : Int) ≤ t := by omega
  have b2 : (t : Int) < 5 := by omega
  have H := Lib.hid h
  have HOK := Lib.hid hok
  have HC := Lib.hid hc
  have hqs := h.lt q (by rw [h.Lm]; simp)
  have hcap : (M.stk t).length ≤ cap := by
    have hI := (h.st t ht).1
    rw [e1] at hI
    exact hI.row.2.choose_spec.2.2.2.1
  have hct := hc ((M.stk t).length - 1) (by omega)
  have htop : gI (M.stk t) ((M.stk t).length - 1) = top (M.stk t) := rfl
  rw [htop] at hct
  obtain ⟨len, hlen⟩ : ∃ z, z = (M.stk t).length := ⟨_, rfl⟩
  rw [← hlen] at hd0 k1 hl HC hcap hct
  have HLEN := Lib.hid hlen
  obtain ⟨a, ha⟩ : ∃ z, z = top (M.stk t) := ⟨_, rfl⟩
  rw [← ha] at hd0 hct hta
  have HA := Lib.hid ha
  clear h hok hTt e1 hc hlen ha htop
  by_cases h2 : len < 2
  · have hr : Hid (M.leave t = (0, 13, M)) := by show _ = _; rw [hd0.out, if_pos h2]
    clear hd0 hct
    go_enter Try.func75, Try.ntmps75
    go_wp2_with fail
    refine hi.mono ?_
    rintro e _ ⟨rfl, rfl⟩
    go_wp2_with fail
    refine hR.out _ _ ?_
    unfold RDidN
    rw [hr.out]
    exact rdid_none H.out (Drew.refl _)
  · have hd1 : Hid (M.leave t = (a, 0, if 2 ≤ a ∧ (M.popped t).used a = false then (M.popped t).reset a else M.popped t)) := by show _ = _; rw [hd0.out, if_neg h2]
    obtain ⟨n, hn⟩ : ∃ n, n + 1 = len := ⟨len - 1, by omega⟩
    have en : (len : Int) - 1 = n := by omega
    rw [show len - 1 = n by omega] at hct
    have n0 : (0 : Int) ≤ n := by omega
    have n1 : (n : Int) ≤ cap := by omega
    have n2 : (n : Int) < len := by omega
    have n3 : (n : Int) ≤ 7 := by omega
    have n4 : (n : Int).toNat = n := by omega
    have hl1 : 0 < n := by omega
    have hl3 : n ≤ 1000000 := by omega
    have HN := Lib.hid hn
    clear hd0 hn
    go_enter Try.func75, Try.ntmps75
    go_wp2_with fail
    refine hi.mono ?_
    rintro e _ ⟨rfl, rfl⟩
    go_wp2_with fail
    have hO : Only [] w w.drew := (Only.refl _ _).drewN 1
    have hag : ∀ wl, Only [] w wl → ∀ j u, (M.stk t).dropLast[j]? = some u → wl.cell? ((⟨g, 0, none⟩ : Addr).add j) = some (.int .i64 u) := fun wl ho j u hu => by
      rw [addr_add, Nat.zero_add]
      rw [List.getElem?_dropLast] at hu
      split at hu
      · rename_i hj
        have := HC.out j (by have := HLEN.out; omega)
        rw [gI, hu] at this
        exact ho.cell this (by simp)
      · cases hu
    have HAG := Lib.hid hag
    have hn1 : ([] : List Int).length + n = n := by simp
    have hnl : (M.stk t).dropLast.length = n := by have := HLEN.out; have := HN.out; simp; omega
    have HNL := Lib.hid hnl
    have HST0 : HasSt X.sg t w.drew := has_of hO k1 f1
    have hsin : (⟨X.sg, t, none⟩ : Addr).block ∈ [X.sg] := by simp
    have hqin : (⟨q, 1, none⟩ : Addr).block ∉ [X.sg] := by simp; rintro rfl; have := H.out.Lm; rw [H.out.Lsg] at this; cases this
    have n5 : IntKind.i64.wrap (n : Int) = (n : Int) := IntWalk.i64_in _ (by omega)
    clear hag hnl
    go_region_held3 (fun w' => w'.cell? ⟨q, 1, none⟩ = some (.slice (some ⟨X.sg, 0, none⟩) 5 X.sc) ∧ HasSt X.sg t w')
      (first
        | (exact ⟨m1, HST0⟩)
        | (exact ⟨hs1.cell0 m1, has_of hs1 k1 f1⟩)
        | (refine ⟨?_, HasSt.alloc (And.right (by assumption)) _⟩; exact (only_a1 w _).cell0 m1)
        | (refine ⟨?_, HasSt.set (has_of hs1 k1 f1) _⟩; exact ((Only.refl [X.sg] w1).set (p := ⟨X.sg, t, none⟩) (.inl hsin) _).cell (hs1.cell0 m1) hqin))
      (first
        | (refine step_app (by rfl) (.tmp 34) (.tmp 39) (by rfl) w (only_a1 w _) _ [] (by rfl) (made_alone w) ⟨g, 0, none⟩ n cap (M.stk t).dropLast (by rfl) HNL.out (HAG.out _ (only_a1 w _)) hl1 n hn1 hl3 ?_; intro g1 cap1 w1 hi1 hs1 hk1; have cst := hs1.cell0 k1; have fst := hs1.frozen0 k1 f1))
    have hd : RDid w L q (.tuple #[.int .i64 a, .int .i64 0]) (M.popped t) (.returned (.tuple #[.int .i64 a, .int .i64 0])) (w1.setCell ⟨X.sg, t, none⟩ (.slice (some ⟨g1, 0, none⟩) n cap1)) := stk_end (r := .tuple #[.int .i64 a, .int .i64 0]) H.out ht hs1 hi1
    have HD := Lib.hid hd
    clear hd hi1 hk1 n5 hs1 cst fst hqin hsin HST0 hO
    obtain ⟨_, L2, X2, hh2, hg2, ho2⟩ := HD.out
    generalize (w1.setCell ⟨X.sg, t, none⟩ (.slice (some ⟨g1, 0, none⟩) n cap1)) = w2 at *
    have HH2 := Lib.hid hh2
    have HG2 := Lib.hid hg2
    have HO2 := Lib.hid ho2
    clear hh2 hg2 ho2
    have hS := HOK.out.popped ht (by have := HLEN.out; omega)
    by_cases h3 : 2 ≤ a
    · have han : (M.popped t).isA a = true := isA_of hta
      have hus := rused_rep w2 HH2.out hS a han
      cases hu : (M.popped t).used a
      · rw [hu] at hus
        have hr : Hid (M.leave t = (a, 0, (M.popped t).reset a)) := by show _ = _; rw [hd1.out, if_pos ⟨h3, hu⟩]
        obtain ⟨va, vc, hv⟩ := HH2.out.ob.len
        have hob := HOK.out.ob
        obtain ⟨j, hj⟩ : ∃ j : Nat, a = j := ⟨a.toNat, by omega⟩
        have ha2 : (j : Int) < ((M.n + 2 : Nat) : Int) := by omega
        have hjb : (0 : Int) ≤ j := by omega
        have HV := Lib.hid hv
        obtain ⟨ol, hol⟩ : ∃ z, z = M.obs.length := ⟨_, rfl⟩
        have HOL := Lib.hid hol
        rw [← hol] at hob
        have hn6 : M.n ≤ 6 := HOK.out.n6
        have HJ := Lib.hid hj
        have hn2e : (M.popped t).n = M.n := rfl
        obtain ⟨n2n, hn2n⟩ : ∃ z, z = M.n + 2 := ⟨_, rfl⟩
        rw [← hn2n] at ha2
        have HNN := Lib.hid hn2n
        clear hu hS han hv hol hd1 hn2n
        subst hj
        go_wp2_with fail
        refine hus.mono ?_
        rintro e _ ⟨rfl, rfl⟩
        clear hus
        go_wp2_with fail
        go_loopw [8] (fun iv wr => ∃ k : Nat, k ≤ ol ∧ iv = .int .i64 k ∧ RRep wr L2 q { M.popped t with obs := goneK M.obs j k } X2 ∧ OnlyP (fun k => L2 k ≠ none) w2 wr) (fun iv _ => ol - (intOf iv).toNat)
        case atStart => exact ⟨0, by omega, rfl, HH2.out, OnlyP.refl _ _⟩
        case round =>
          obtain ⟨k, hk, rfl, hH, hO⟩ := hrel
          have HH := Lib.hid hH
          have HO := Lib.hid hO
          have m2 : wr.cell? ⟨q, 2, none⟩ = some (.slice va ol vc) := by rw [hH.cells.2.2.1, HV.out, HOL.out]; rfl
          by_cases hlt : k < ol
          · have hlt' : k < (goneK M.obs j k).length := by rw [goneK_len]; have := HOL.out; omega
            have hko : k < M.obs.length := by have := HOL.out; omega
            obtain ⟨g5, cap5, e5, l5, o0, _, _, o3, f5⟩ := hH.obj (j := k) hlt'
            have e6 : X2.obv = .slice (some ⟨g5, 0, none⟩) (goneK M.obs j k).length cap5 := e5
            rw [goneK_len, ← HOL.out] at e6
            rw [HV.out] at e6
            have hva : va = some ⟨g5, 0, none⟩ ∧ vc = cap5 := by cases e6; exact ⟨rfl, rfl⟩
            obtain ⟨rfl, rfl⟩ := hva
            have hob2 : (goneK M.obs j k)[k] = M.obs[k] := by
              have := goneK_at M.obs (j : Int) hko
              rw [List.getElem?_eq_getElem hlt'] at this
              exact Option.some.inj this
            replace o0 : wr.cell? ⟨g5, k * 4, none⟩ = some (.int .i64 M.obs[k].area) := by rw [o0]; show some (Value.int .i64 (goneK M.obs j k)[k].area) = _; rw [hob2]
            replace o3 : wr.cell? ⟨g5, k * 4 + 3, none⟩ = some (.bool M.obs[k].gone) := by rw [o3]; show some (Value.bool (goneK M.obs j k)[k].gone) = _; rw [hob2]
            have f3 := f5 (k * 4 + 3)
            obtain ⟨ar, har⟩ : ∃ z, z = M.obs[k].area := ⟨_, rfl⟩
            rw [← har] at o0
            have HAR := Lib.hid har
            generalize M.obs[k].gone = gn at o3
            clear hH hO e5 e6 har f5
            cases he : (ar == (j : Int))
            · have hgs : Hid (goneK M.obs j (k + 1) = goneK M.obs j k) := by
                show _ = _
                rw [goneK_step M.obs _ hko]
                refine set_same ?_
                rw [List.getElem?_eq_getElem hlt', hob2]
                have : M.obs[k].area ≠ (j : Int) := by rw [← HAR.out]; simpa using he
                unfold goneIn
                rw [if_neg this]
              go_wp2_with fail
              exact ⟨⟨k + 1, by omega, by go_num, by rw [hgs.out]; exact HH.out, HO.out⟩, by simp [intOf]; omega⟩
            · have hgs : Hid (goneK M.obs j (k + 1) = (goneK M.obs j k).set k { (goneK M.obs j k)[k] with gone := true }) := by
                show _ = _
                rw [goneK_step M.obs _ hko, hob2]
                have : M.obs[k].area = (j : Int) := by rw [← HAR.out]; simpa using he
                unfold goneIn
                rw [if_pos this]
              have hset := HH.out.setGone (j := k) (g := g5) (cap := vc) hlt' (by rw [HV.out]; show Value.slice _ _ _ = .slice _ (goneK M.obs j k).length _; rw [goneK_len]; rfl)
              have HSET := Lib.hid hset
              clear hset
              go_wp2_with fail
              refine ⟨⟨k + 1, by omega, by go_num, ?_, HO.out.set (.inl (by rw [l5]; simp)) _⟩, by simp [intOf]; omega⟩
              rw [hgs.out]
              exact HSET.out
          · obtain rfl : k = ol := by omega
            have hk2 : goneK M.obs j k = M.obs.map (goneIn j) := by rw [HOL.out]; exact goneK_all _ _
            rw [hk2] at hH
            have m3 := hH.cells.2.2.2
            have hpa := hH.porAt (a := (j : Int)) hjb (by show (j : Int) < (M.n : Int) + 2; have := HNN.out; omega)
            have hn2' : ({ M.popped t with obs := M.obs.map (goneIn j) } : Sc).n + 2 = n2n := HNN.out.symm
            rw [hn2'] at m3
            obtain ⟨p0, p1⟩ := hpa
            rw [Int.toNat_natCast] at p0 p1
            generalize ({ M.popped t with obs := M.obs.map (goneIn j) } : Sc).por j = pv at p0
            have hfin : Hid (RRep (wr.setCell ⟨X2.pg, j, none⟩ (.int .i64 0)) L2 q ((M.popped t).reset j) X2) := hH.setPor j 0
            have hlg := hH.Lpg
            clear hH hO hn2' hk2
            go_wp2_with fail
            refine hR.out _ _ ?_
            unfold RDidN
            rw [hr.out]
            exact ⟨rfl, L2, X2, hfin.out, HG2.out, HO2.out.trans (HO.out.set (.inl (by rw [hlg]; simp)) _) (fun x hx => (HG2.out x hx))⟩
      · rw [hu] at hus
        have hr : Hid (M.leave t = (a, 0, M.popped t)) := by show _ = _; rw [hd1.out, if_neg (fun x => by rw [hu] at x; cases x.2)]
        clear hu hS han hd1
        go_wp2_with fail
        refine hus.mono ?_
        rintro e _ ⟨rfl, rfl⟩
        go_wp2_with fail
        refine hR.out _ _ ?_
        unfold RDidN
        rw [hr.out]
        exact HD.out
    · have hr : Hid (M.leave t = (a, 0, M.popped t)) := by show _ = _; rw [hd1.out, if_neg (fun x => h3 x.1)]
      clear hS hd1
      go_wp2_with fail
      refine hR.out _ _ ?_
      unfold RDidN
      rw [hr.out]
      exact HD.out
theorem rleave_rep (w : World) (h : RRep w L q M X) (hok : M.Ok) (t : Int) :
    Calls Try.prog 75 #[.pointer (some ⟨q, 0, none⟩), .int .i64 t] w (RDidN w L q (M.leave t)) := by
  cases hT : isT t
  · refine (rleave_bad w h t hT).mono ?_
    rintro e _ ⟨rfl, rfl⟩
    have hr : M.leave t = (0, 1, M) := by unfold Sc.leave; rw [hT]; rfl
    rw [hr]
    exact rdid_none h (Drew.refl _)
  · obtain ⟨n, rfl, hn⟩ := isT_nat hT
    exact rleave_in w h hok n hn
end
end Go.Proofs.Ytbjmgbbggbbidaa
