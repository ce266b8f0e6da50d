/- Lemmas of this claim. -/
import Derived.Test.YthflghdaejbdkaaGreatXeCyStar
import Derived.Test.YthflghdaejbdkaaGreatXeTbPF
import Derived.Test.YthflghdaejbdkaaGreatXeCyRun
namespace Go.Proofs.YthflghdaejbdkaaGreat
open Go.RowKit Go.Maps
set_option maxHeartbeats 3200000
set_option maxRecDepth 100000
set_option linter.unusedVariables false
structure CX where
  hb : Nat
  p : Nat
  tb : Nat
  sv : Value
  ov : Bool
  mv : Nat
def CRow (b : Nat) (c : Co) (x : CX) : List Value := [.int .i64 (c.pages : Int), .int .i64 c.rate, .pointer (some ⟨x.hb, 0, none⟩), .pointer (some ⟨x.tb, 0, none⟩), .pointer (some ⟨x.p, 0, none⟩), .int .i64 (c.ph : Int), .int .i64 c.cr, .bool x.ov, x.sv, .int .i64 (x.mv : Int)]
structure CX.ok (x : CX) (c : Co) : Prop where
  ov : c.ph = 2 → x.ov = decide (c.t.ph = 0)
  mv : c.ph = 4 → x.mv = c.mv
  mv2 : x.mv ≤ 192
def C5 (b : Nat) (c : Co) (x : CX) : List Asn := [PH x.hb c.m.M, MkA x.p x.hb c.m.col c.m.list, TbA x.tb c.t c.t.ents.length, IntsA x.sv c.sw, RowA b 142 (CRow b c x)]
def CoA (b : Nat) (c : Co) : Asn := Some1 (fun x => CX.ok x c) (C5 b c)
structure GX5 where
  q : Nat
  r : Nat
  ub : Nat
  sv : Value
  on : Bool
  mv : Nat
def GRow5 (b : Nat) (c : Co) (x : GX5) : List Value := [.pointer (some ⟨x.q, 0, none⟩), .pointer (some ⟨x.ub, 0, none⟩), .pointer (if x.on then some ⟨x.r, 0, none⟩ else none), .int .i64 (c.ph : Int), .int .i64 c.cr, .int .i64 c.rate, .int .i64 (c.pages : Int), .int .i64 (x.mv : Int), x.sv]
structure GX5.ok (x : GX5) (c : Co) : Prop where
  on : x.on = c.bar
  mv : c.ph = 4 → x.mv = c.mv
  m0 : 1 ≤ c.ph → c.ph ≤ 3 → x.mv = 0
  mv2 : x.mv ≤ 192
def MkO (on : Bool) (r q : Nat) (m : Mk) : Asn := if on then GkA r q m.col m.list else NoA
def G5 (b : Nat) (c : Co) (x : GX5) : List Asn := [GH x.q c.m.M, MkO x.on x.r x.q c.m, TrA x.ub c.t, IntsA x.sv c.sw, RowA b 99 (GRow5 b c x)]
def GoA (b : Nat) (c : Co) : Asn := Some1 (fun x => GX5.ok x c) (G5 b c)
section
variable {w0 w w' : World} {l : List Asn} {b : Nat} {c : Co} {x : CX} {i : Nat} {m : Mk} {t : Tb}
theorem CoA.open (h : Fam w0 w l) (hi : l[i]? = some (CoA b c)) : ∃ x : CX, x.ok c ∧ Fam w0 w (C5 b c x ++ l.set i NoA) := h.open1 hi
theorem CoA.close (hx : x.ok c) (h : Fam w0 w (C5 b c x ++ l.set i NoA)) (hi : i < l.length) : Fam w0 w (l.set i (CoA b c)) := by
  have := h.close1 (P := fun x => CX.ok x c) (F := C5 b c) x hx rfl (get_NoA hi)
  rwa [set_NoA] at this
theorem CoA.born (hx : x.ok c) (h : Fam w0 w (C5 b c x ++ l)) : Fam w0 w (l ++ [CoA b c]) := h.close2 (P := fun x => CX.ok x c) (F := C5 b c) x hx rfl
theorem C5.t2 : Two2 (C5 b c x ++ l) 0 1 := ⟨by simp [C5], by simp [C5], by decide⟩
theorem C5.t3 : Three (C5 b c x ++ l) 0 1 2 := ⟨C5.t2, by simp [C5], by decide, by decide⟩
theorem C5.row (h : Fam w0 w (C5 b c x ++ l)) : Row w b 142 (CRow b c x) := h.row 4 rfl
theorem C5.ph (h : Fam w0 w (C5 b c x ++ l)) : c.m.M.Ok ∧ ∃ L X, HRep w L x.hb c.m.M X := h.ph 0 rfl
theorem C5.sw (h : Fam w0 w (C5 b c x ++ l)) : Ints w 0 x.sv c.sw := h.ints 3 rfl
theorem CRow.cells (h : Fam w0 w (C5 b c x ++ l)) : w.cell? ⟨b, 0, none⟩ = some (.int .i64 (c.pages : Int)) ∧ w.cell? ⟨b, 1, none⟩ = some (.int .i64 c.rate) ∧ w.cell? ⟨b, 2, none⟩ = some (.pointer (some ⟨x.hb, 0, none⟩)) ∧ w.cell? ⟨b, 3, none⟩ = some (.pointer (some ⟨x.tb, 0, none⟩)) ∧ w.cell? ⟨b, 4, none⟩ = some (.pointer (some ⟨x.p, 0, none⟩)) ∧ w.cell? ⟨b, 5, none⟩ = some (.int .i64 (c.ph : Int)) ∧ w.cell? ⟨b, 6, none⟩ = some (.int .i64 c.cr) ∧ w.cell? ⟨b, 7, none⟩ = some (.bool x.ov) ∧ w.cell? ⟨b, 8, none⟩ = some x.sv ∧ w.cell? ⟨b, 9, none⟩ = some (.int .i64 (x.mv : Int)) ∧ ∀ k, w.frozen? ⟨b, k, none⟩ = false := by
  have r := C5.row h
  exact ⟨r.cell 0 rfl, r.cell 1 rfl, r.cell 2 rfl, r.cell 3 rfl, r.cell 4 rfl, r.cell 5 rfl, r.cell 6 rfl, r.cell 7 rfl, r.cell 8 rfl, r.cell 9 rfl, fun k => r.free k⟩
end
end Go.Proofs.YthflghdaejbdkaaGreat
namespace Go.Proofs.YthflghdaejbdkaaGreat
open Go.RowKit Go.Maps
set_option maxHeartbeats 6400000
set_option maxRecDepth 100000
set_option linter.unusedVariables false
section
variable {w0 w : World} {l : List Asn} {b : Nat} {c : Co} {x : CX} {i : Nat}
theorem cnone_nil (w : World) : Calls Tryz.prog 107 #[.pointer none] w (Exact w (.bool true)) := by
  refine calls_abs fun R hR => ?_
  go_enter Tryz.func107, Tryz.ntmps107
  go_wp2_with fail
  exact hR.out _ _ ⟨rfl, rfl⟩
theorem cnone_rep (w : World) {hb : Nat} (h : w.cell? ⟨b, 2, none⟩ = some (.pointer (some ⟨hb, 0, none⟩))) : Calls Tryz.prog 107 #[.pointer (some ⟨b, 0, none⟩)] w (Exact w (.bool false)) := by
  refine calls_abs fun R hR => ?_
  go_enter Tryz.func107, Tryz.ntmps107
  go_wp2_with fail
  exact hR.out _ _ ⟨rfl, rfl⟩
theorem clength_rep (w : World) (hf : Fam w0 w (C5 b c x ++ l)) (h : Int) (hh : wfI h) : Calls Tryz.prog 114 #[.pointer (some ⟨b, 0, none⟩), .int .i64 h] w (Same w (.int .i64 (c.m.M.len h))) := by
  refine calls_abs fun R hR => ?_
  obtain ⟨_, _, x2, _⟩ := CRow.cells hf
  obtain ⟨hk, L, X, hp⟩ := C5.ph hf
  have ct := type_rep w hp h hh
  unfold Hp.len at hR
  clear hf hk hp
  go_enter Tryz.func114, Tryz.ntmps114
  go_wp2_with fail
  refine ct.mono ?_
  rintro e _ ⟨rfl, n, rfl⟩
  go_wp2_with fail
  exact hR.out _ _ ⟨rfl, n, rfl⟩
theorem ph_cases (h : c.Okc) : c.ph = 0 ∨ c.ph = 1 ∨ c.ph = 2 ∨ c.ph = 3 ∨ c.ph = 4 := by have := h.p4; omega
theorem cbarrier_rep (w : World) (hf : Fam w0 w (C5 b c x ++ l)) (h : c.Okc) : Calls Tryz.prog 117 #[.pointer (some ⟨b, 0, none⟩)] w (Exact w (.bool c.bar)) := by
  refine calls_abs fun R hR => ?_
  obtain ⟨_, _, _, _, _, x5, _⟩ := CRow.cells hf
  unfold Co.bar at hR
  rcases ph_cases h with e | e | e | e | e
  all_goals
    rw [e] at hR x5
    clear hf h e
    go_enter Tryz.func117, Tryz.ntmps117
    go_wp2_with fail
    exact hR.out _ _ ⟨rfl, rfl⟩
theorem cphase_rep (w : World) (hf : Fam w0 w (C5 b c x ++ l)) : Calls Tryz.prog 53 #[.pointer (some ⟨b, 0, none⟩)] w (Exact w (.int .i64 (c.ph : Int))) := by
  refine calls_abs fun R hR => ?_
  obtain ⟨_, _, x2, _, _, x5, _⟩ := CRow.cells hf
  have cn := cnone_rep w x2
  clear hf
  generalize c.ph = ph at *
  go_enter Tryz.func53, Tryz.ntmps53
  go_wp2_with fail
  refine cn.mono ?_
  rintro e _ ⟨rfl, rfl⟩
  go_wp2_with fail
  exact hR.out _ _ ⟨rfl, rfl⟩
theorem chidden_rep (w : World) (hf : Fam w0 w (C5 b c x ++ l)) (h : c.Okc) (y : Int) (hy : wfI y) : Calls Tryz.prog 121 #[.pointer (some ⟨b, 0, none⟩), .int .i64 y] w (Same w (.bool (c.hid y))) := by
  refine calls_abs fun R hR => ?_
  obtain ⟨_, _, _, _, x4, x5, _, _, x8, _⟩ := CRow.cells hf
  have cc := mcolor_rep w (C5.t2 (b := b) (c := c) (x := x) (l := l)) (hb := x.hb) (p := x.p) (m := c.m) hf y hy
  have hs := C5.sw hf
  have cs := contains_listI w x.sv c.sw hs.read (by have := h.sw_len; omega) y
  have hsw := h.sw
  unfold Co.hid at hR
  rcases ph_cases h with e | e | e | e | e
  · rw [if_neg (by omega), hsw (by omega)] at hR
    rw [e] at x5
    replace hR : Hid (∀ e w', Same w (.bool false) e w' → R e w') := hR
    clear hf h e hs cc cs hsw x4 x8
    go_enter Tryz.func121, Tryz.ntmps121
    go_wp2_with fail
    exact hR.out _ _ ⟨rfl, drewN_0 _⟩
  · rw [if_neg (by omega), hsw (by omega)] at hR
    rw [e] at x5
    replace hR : Hid (∀ e w', Same w (.bool false) e w' → R e w') := hR
    clear hf h e hs cc cs hsw x4 x8
    go_enter Tryz.func121, Tryz.ntmps121
    go_wp2_with fail
    exact hR.out _ _ ⟨rfl, drewN_0 _⟩
  · rw [if_pos e] at hR
    rw [e] at x5
    unfold Mk.isW at hR
    unfold Mk.color at cc
    clear hf h e hs cs hsw x8
    cases hu : (c.m.M.ob y).isSome with
    | false =>
      rw [hu] at hR cc
      replace hR : Hid (∀ e w', Same w (.bool false) e w' → R e w') := hR
      clear hu
      go_enter Tryz.func121, Tryz.ntmps121
      go_wp2_with fail
      refine cc.mono ?_
      rintro e _ ⟨rfl, n, rfl⟩
      go_wp2_with fail
      exact hR.out _ _ ⟨rfl, n, rfl⟩
    | true =>
      rw [hu] at hR cc
      replace hR : Hid (∀ e w', Same w (.bool (decide (c.m.col y = 0))) e w' → R e w') := hR
      clear hu
      generalize c.m.col y = k at *
      by_cases hk : k = 0
      · subst hk
        replace hR : Hid (∀ e w', Same w (.bool true) e w' → R e w') := hR
        go_enter Tryz.func121, Tryz.ntmps121
        go_wp2_with fail
        refine cc.mono ?_
        rintro e _ ⟨rfl, n, rfl⟩
        go_wp2_with fail
        exact hR.out _ _ ⟨rfl, n, rfl⟩
      · rw [decide_eq_false hk] at hR
        have hkb : (k == 0) = false := by simpa using hk
        clear hk
        go_enter Tryz.func121, Tryz.ntmps121
        go_wp2_with fail
        refine cc.mono ?_
        rintro e _ ⟨rfl, n, rfl⟩
        go_wp2_with fail
        exact hR.out _ _ ⟨rfl, n, rfl⟩
  · rw [if_neg (by omega)] at hR
    rw [e] at x5
    obtain ⟨sa, sc, hv⟩ := hs.len
    rw [hv] at cs x8
    generalize c.sw.length = n at *
    generalize decide (y ∈ c.sw) = d at *
    clear hf h e hs cc hsw x4 hv
    go_enter Tryz.func121, Tryz.ntmps121
    go_wp2_with fail
    refine cs.mono ?_
    rintro e _ ⟨rfl, rfl⟩
    go_wp2_with fail
    exact hR.out _ _ ⟨rfl, drewN_0 _⟩
  · rw [if_neg (by omega), hsw (by omega)] at hR
    rw [e] at x5
    replace hR : Hid (∀ e w', Same w (.bool false) e w' → R e w') := hR
    clear hf h e hs cc cs hsw x4 x8
    go_enter Tryz.func121, Tryz.ntmps121
    go_wp2_with fail
    exact hR.out _ _ ⟨rfl, drewN_0 _⟩
def Co.nextV (c : Co) : Value :=
  if c.ph = 1 then (if c.m.list = [] then .iface 163 (.agg #[.int .i64 2]) else .iface 157 (.agg #[]))
  else if c.ph = 2 then (if c.t.ph ≠ 0 then .iface 218 (.agg #[]) else if c.m.list = [] then .iface 163 (.agg #[.int .i64 3]) else .iface 157 (.agg #[]))
  else if c.ph = 3 then (match c.sw with | [] => .iface 163 (.agg #[.int .i64 4]) | h :: _ => .iface 160 (.agg #[.int .i64 h]))
  else (if c.mv = 8 * c.pages then .iface 163 (.agg #[.int .i64 0]) else .iface 219 (.agg #[]))
theorem cnext_rep (w : World) (hf : Fam w0 w (C5 b c x ++ l)) (h : c.Okc) (hx : x.ok c) (hp : c.ph ≠ 0) : Calls Tryz.prog 112 #[.pointer (some ⟨b, 0, none⟩)] w (Same w c.nextV) := by
  refine calls_abs fun R hR => ?_
  obtain ⟨x0, _, _, _, x4, x5, _, x7, x8, x9, _⟩ := CRow.cells hf
  have cd := mdone_rep w (C5.t2 (b := b) (c := c) (x := x) (l := l)) (hb := x.hb) (p := x.p) (m := c.m) hf
  have hs := C5.sw hf
  unfold Co.nextV at hR
  rcases ph_cases h with e | e | e | e | e
  · exact absurd e hp
  · rw [if_pos e] at hR
    rw [e] at x5
    clear hf h hs x7 x8 x9 x0 hx hp e
    by_cases hl : c.m.list = []
    · rw [if_pos hl] at hR
      rw [decide_eq_true hl] at cd
      clear hl
      go_enter Tryz.func112, Tryz.ntmps112
      go_wp2_with fail
      refine cd.mono ?_
      rintro e _ ⟨rfl, rfl⟩
      go_wp2_with fail
      exact hR.out _ _ ⟨rfl, drewN_0 _⟩
    · rw [if_neg hl] at hR
      rw [decide_eq_false hl] at cd
      clear hl
      go_enter Tryz.func112, Tryz.ntmps112
      go_wp2_with fail
      refine cd.mono ?_
      rintro e _ ⟨rfl, rfl⟩
      go_wp2_with fail
      exact hR.out _ _ ⟨rfl, drewN_0 _⟩
  · rw [if_neg (by omega), if_pos e] at hR
    have hov := hx.ov e
    rw [e] at x5
    clear hf h hs x8 x9 x0 hx hp e
    by_cases ht : c.t.ph ≠ 0
    · rw [if_pos ht] at hR
      rw [decide_eq_false ht] at hov
      rw [hov] at x7
      clear cd ht hov
      go_enter Tryz.func112, Tryz.ntmps112
      go_wp2_with fail
      exact hR.out _ _ ⟨rfl, drewN_0 _⟩
    · rw [if_neg ht] at hR
      rw [decide_eq_true (Classical.not_not.1 ht)] at hov
      rw [hov] at x7
      clear ht hov
      by_cases hl : c.m.list = []
      · rw [if_pos hl] at hR
        rw [decide_eq_true hl] at cd
        clear hl
        go_enter Tryz.func112, Tryz.ntmps112
        go_wp2_with fail
        refine cd.mono ?_
        rintro e _ ⟨rfl, rfl⟩
        go_wp2_with fail
        exact hR.out _ _ ⟨rfl, drewN_0 _⟩
      · rw [if_neg hl] at hR
        rw [decide_eq_false hl] at cd
        clear hl
        go_enter Tryz.func112, Tryz.ntmps112
        go_wp2_with fail
        refine cd.mono ?_
        rintro e _ ⟨rfl, rfl⟩
        go_wp2_with fail
        exact hR.out _ _ ⟨rfl, drewN_0 _⟩
  · rw [if_neg (by omega), if_neg (by omega), if_pos e] at hR
    rw [e] at x5
    clear hf h cd x7 x9 x0 hx hp e x4
    cases hc : c.sw with
    | nil =>
      rw [hc] at hs hR
      obtain ⟨sa, sc, hv⟩ := hs.len
      rw [hv] at x8
      replace x8 : w.cell? ⟨b, 8, none⟩ = some (.slice sa 0 sc) := x8
      clear hs hv hc
      go_enter Tryz.func112, Tryz.ntmps112
      go_wp2_with fail
      exact hR.out _ _ ⟨rfl, drewN_0 _⟩
    | cons y r =>
      rw [hc] at hs hR
      obtain ⟨sa, sc, hv⟩ := hs.len
      rw [hv] at x8 hs
      obtain ⟨sb, so, hse, hcl⟩ := hs.read.at (k := 0) (by simp)
      rw [hse] at x8
      rw [Nat.add_zero] at hcl
      replace hcl : w.cell? ⟨sb, so, none⟩ = some (.int .i64 y) := hcl
      replace x8 : w.cell? ⟨b, 8, none⟩ = some (.slice (some ⟨sb, so, none⟩) (r.length + 1) sc) := x8
      replace hR : Hid (∀ e w', Same w (.iface 160 (.agg #[.int .i64 y])) e w' → R e w') := hR
      clear hs hv hc hse
      generalize r.length = n at *
      have hn1 : ((n : Int) + 1 == 0) = false := by rw [beq_eq_false_iff_ne]; omega
      have hn2 : (0 : Int) < (n : Int) + 1 := by omega
      go_enter Tryz.func112, Tryz.ntmps112
      go_wp2_with fail
      exact hR.out _ _ ⟨rfl, drewN_0 _⟩
  · rw [if_neg (by omega), if_neg (by omega), if_neg (by omega)] at hR
    have hmv := hx.mv e
    rw [hmv] at x9
    rw [e] at x5
    have hpg := h.pg
    have hm192 := h.mv
    clear hf h hs cd x7 hx hp e x4 x8 hmv
    generalize c.pages = n at *
    generalize c.mv = v at *
    have hw8 : IntKind.i64.wrap (8 * (n : Int)) = 8 * (n : Int) := IntWalk.i64_in _ (by omega)
    have hw8N : IntKind.i64.wrap (8 * (n : Int)) = ((8 * n : Nat) : Int) := hw8.trans (by omega)
    by_cases hc : v = 8 * n
    · rw [if_pos hc] at hR
      have hcb : ((v : Int) == 8 * (n : Int)) = true := by simp; omega
      clear hc hw8N
      go_enter Tryz.func112, Tryz.ntmps112
      go_wp2_with fail
      go_region
      all_goals
        go_wp2_with fail
        exact hR.out _ _ ⟨rfl, 1, rfl⟩
    · rw [if_neg hc] at hR
      have hcb : ((v : Int) == 8 * (n : Int)) = false := by rw [beq_eq_false_iff_ne]; omega
      clear hc hw8N
      go_enter Tryz.func112, Tryz.ntmps112
      go_wp2_with fail
      go_region
      all_goals
        go_wp2_with fail
        exact hR.out _ _ ⟨rfl, 1, rfl⟩
end
end Go.Proofs.YthflghdaejbdkaaGreat
