/- Lemmas of this claim. -/
import Derived.Test.YthflghdaejbdkaaGreatXfCyStar
import Derived.Test.YthflghdaejbdkaaGreatXfTbPF
import Derived.Test.YthflghdaejbdkaaGreatXfCyRun
namespace Go.Proofs.YthflghdaejbdkaaGreat
open Go.RowKit Go.Maps
set_option maxHeartbeats 3200000
set_option maxRecDepth 100000
set_option linter.unusedVariables false
structure CX where
  hb : Nat
  p : Nat
  tb : Nat
  sv : Value
  ov : Bool
  mv : Nat
def CRow (b : Nat) (c : Co) (x : CX) : List Value := [.int .i64 (c.pages : Int), .int .i64 c.rate, .pointer (some ⟨x.hb, 0, none⟩), .pointer (some ⟨x.tb, 0, none⟩), .pointer (some ⟨x.p, 0, none⟩), .int .i64 (c.ph : Int), .int .i64 c.cr, .bool x.ov, x.sv, .int .i64 (x.mv : Int)]
structure CX.ok (x : CX) (c : Co) : Prop where
  ov : c.ph = 2 → x.ov = decide (c.t.ph = 0)
  mv : c.ph = 4 → x.mv = c.mv
  mv2 : x.mv ≤ 192
def C5 (b : Nat) (c : Co) (x : CX) : List Asn := [PH x.hb c.m.M, MkA x.p x.hb c.m.col c.m.list, TbA x.tb c.t c.t.ents.length, IntsA x.sv c.sw, RowA b 142 (CRow b c x)]
def CoA (b : Nat) (c : Co) : Asn := Some1 (fun x => CX.ok x c) (C5 b c)
structure GX5 where
  q : Nat
  r : Nat
  ub : Nat
  sv : Value
  on : Bool
  mv : Nat
def GRow5 (b : Nat) (c : Co) (x : GX5) : List Value := [.pointer (some ⟨x.q, 0, none⟩), .pointer (some ⟨x.ub, 0, none⟩), .pointer (if x.on then some ⟨x.r, 0, none⟩ else none), .int .i64 (c.ph : Int), .int .i64 c.cr, .int .i64 c.rate, .int .i64 (c.pages : Int), .int .i64 (x.mv : Int), x.sv]
structure GX5.ok (x : GX5) (c : Co) : Prop where
  on : x.on = c.bar
  mv : c.ph = 4 → x.mv = c.mv
  m0 : 1 ≤ c.ph → c.ph ≤ 3 → x.mv = 0
  mv2 : x.mv ≤ 192
def MkO (on : Bool) (r q : Nat) (m : Mk) : Asn := if on then GkA r q m.col m.list else NoA
def G5 (b : Nat) (c : Co) (x : GX5) : List Asn := [GH x.q c.m.M, MkO x.on x.r x.q c.m, TrA x.ub c.t, IntsA x.sv c.sw, RowA b 99 (GRow5 b c x)]
def GoA (b : Nat) (c : Co) : Asn := Some1 (fun x => GX5.ok x c) (G5 b c)
section
variable {w0 w w' : World} {l : List Asn} {b : Nat} {c : Co} {x : CX} {i : Nat} {m : Mk} {t : Tb}
theorem CoA.open (h : Fam w0 w l) (hi : l[i]? = some (CoA b c)) : ∃ x : CX, x.ok c ∧ Fam w0 w (C5 b c x ++ l.set i NoA) := h.open1 hi
theorem CoA.close (hx : x.ok c) (h : Fam w0 w (C5 b c x ++ l.set i NoA)) (hi : i < l.length) : Fam w0 w (l.set i (CoA b c)) := by
  have := h.close1 (P := fun x => CX.ok x c) (F := C5 b c) x hx rfl (get_NoA hi)
  rwa [set_NoA] at this
theorem CoA.born (hx : x.ok c) (h : Fam w0 w (C5 b c x ++ l)) : Fam w0 w (l ++ [CoA b c]) := h.close2 (P := fun x => CX.ok x c) (F := C5 b c) x hx rfl
theorem C5.t2 : Two2 (C5 b c x ++ l) 0 1 := ⟨by simp [C5], by simp [C5], by decide⟩
theorem C5.t3 : Three (C5 b c x ++ l) 0 1 2 := ⟨C5.t2, by simp [C5], by decide, by decide⟩
theorem C5.row (h : Fam w0 w (C5 b c x ++ l)) : Row w b 142 (CRow b c x) := h.row 4 rfl
theorem C5.ph (h : Fam w0 w (C5 b c x ++ l)) : c.m.M.Ok ∧ ∃ L X, HRep w L x.hb c.m.M X := h.ph 0 rfl
theorem C5.sw (h : Fam w0 w (C5 b c x ++ l)) : Ints w 0 x.sv c.sw := h.ints 3 rfl
theorem CRow.cells (h : Fam w0 w (C5 b c x ++ l)) : w.cell? ⟨b, 0, none⟩ = some (.int .i64 (c.pages : Int)) ∧ w.cell? ⟨b, 1, none⟩ = some (.int .i64 c.rate) ∧ w.cell? ⟨b, 2, none⟩ = some (.pointer (some ⟨x.hb, 0, none⟩)) ∧ w.cell? ⟨b, 3, none⟩ = some (.pointer (some ⟨x.tb, 0, none⟩)) ∧ w.cell? ⟨b, 4, none⟩ = some (.pointer (some ⟨x.p, 0, none⟩)) ∧ w.cell? ⟨b, 5, none⟩ = some (.int .i64 (c.ph : Int)) ∧ w.cell? ⟨b, 6, none⟩ = some (.int .i64 c.cr) ∧ w.cell? ⟨b, 7, none⟩ = some (.bool x.ov) ∧ w.cell? ⟨b, 8, none⟩ = some x.sv ∧ w.cell? ⟨b, 9, none⟩ = some (.int .i64 (x.mv : Int)) ∧ ∀ k, w.frozen? ⟨b, k, none⟩ = false := by
  have r := C5.row h
  exact ⟨r.cell 0 rfl, r.cell 1 rfl, r.cell 2 rfl, r.cell 3 rfl, r.cell 4 rfl, r.cell 5 rfl, r.cell 6 rfl, r.cell 7 rfl, r.cell 8 rfl, r.cell 9 rfl, fun k => r.free k⟩
end
end Go.Proofs.YthflghdaejbdkaaGreat
namespace Go.Proofs.YthflghdaejbdkaaGreat
open Go.RowKit Go.Maps
set_option maxHeartbeats 6400000
set_option maxRecDepth 100000
set_option linter.unusedVariables false
section
variable {w0 w : World} {l : List Asn} {b : Nat} {c : Co} {x : CX} {i : Nat}
theorem cnone_nil (w : World) : Calls Tryz.prog 107 #[.pointer none] w (Exact w (.bool true)) := by
  refine calls_abs fun R hR => ?_
  go_enter Tryz.func107, Tryz.ntmps107
  go_wp2_with fail
  exact hR.out _ _ ⟨rfl, rfl⟩
theorem cnone_rep (w : World) {hb : Nat} (h : w.cell? ⟨b, 2, none⟩ = some (.pointer (some ⟨hb, 0, none⟩))) : Calls Tryz.prog 107 #[.pointer (some ⟨b, 0, none⟩)] w (Exact w (.bool false)) := by
  refine calls_abs fun R hR => ?_
  go_enter Tryz.func107, Tryz.ntmps107
  go_wp2_with fail
  exact hR.out _ _ ⟨rfl, rfl⟩
theorem clength_rep (w : World) (hf : Fam w0 w (C5 b c x ++ l)) (h : Int) (hh : wfI h) : Calls Tryz.prog 114 #[.pointer (some ⟨b, 0, none⟩), .int .i64 h] w (Same w (.int .i64 (c.m.M.len h))) := by
  refine calls_abs fun R hR => ?_
  obtain ⟨_, _, x2, _⟩ := CRow.cells hf
  obtain ⟨hk, L, X, hp⟩ := C5.ph hf
  have ct := type_rep w hp h hh
  unfold Hp.len at hR
  clear hf hk hp
  go_enter Tryz.func114, Tryz.ntmps114
  go_wp2_with fail
  refine ct.mono ?_
  rintro e _ ⟨rfl, n, rfl⟩
  go_wp2_with fail
  exact hR.out _ _ ⟨rfl, n, rfl⟩
theorem ph_cases (h : c.Okc) : c.ph = 0 ∨ c.ph = 1 ∨ c.ph = 2 ∨ c.ph = 3 ∨ c.ph = 4 := by have := h.p4; omega
theorem cbarrier_rep (w : World) (hf : Fam w0 w (C5 b c x ++ l)) (h : c.Okc) : Calls Tryz.prog 117 #[.pointer (some ⟨b, 0, none⟩)] w (Exact w (.bool c.bar)) := by
  refine calls_abs fun R hR => ?_
  obtain ⟨_, _, _, _, _, x5, _⟩ := CRow.cells hf
  unfold Co.bar at hR
  rcases ph_cases h with e | e | e | e | e
  all_goals
    rw [e] at hR x5
    clear hf h e
    go_enter Tryz.func117, Tryz.ntmps117
    go_wp2_with fail
    exact hR.out _ _ ⟨rfl, rfl⟩
theorem cphase_rep (w : World) (hf : Fam w0 w (C5 b c x ++ l)) : Calls Tryz.prog 53 #[.pointer (some ⟨b, 0, none⟩)] w (Exact w (.int .i64 (c.ph : Int))) := by
  refine calls_abs fun R hR => ?_
  obtain ⟨_, _, x2, _, _, x5, _⟩ := CRow.cells hf
  have cn := cnone_rep w x2
  clear hf
  generalize c.ph = ph at *
  go_enter Tryz.func53, Tryz.ntmps53
  go_wp2_with fail
  refine cn.mono ?_
  rintro e _ ⟨rfl, rfl⟩
  go_wp2_with fail
  exact hR.out _ _ ⟨rfl, rfl⟩
theorem chidden_rep (w : World) (hf : Fam w0 w (C5 b c x ++ l)) (h : c.Okc) (y : Int) (hy : wfI y) : Calls Tryz.prog 121 #[.pointer (some ⟨b, 0, none⟩), .int .i64 y] w (Same w (.bool (c.hid y))) := by
  refine calls_abs fun R hR => ?_
  obtain ⟨_, _, _, _, x4, x5, _, _, x8, _⟩ := CRow.cells hf
  have cc := mcolor_rep w (C5.t2 (b := b) (c := c) (x := x) (l := l)) (hb := x.hb) (p := x.p) (m := c.m) hf y hy
  have hs := C5.sw hf
  have cs := contains_listI w x.sv c.sw hs.read (by have := h.sw_len; omega) y
  have hsw := h.sw
  unfold Co.hid at hR
  rcases ph_cases h with e | e | e | e | e
  · rw [if_neg (by omega), hsw (by omega)] at hR
    rw [e] at x5
    replace hR : Hid (∀ e w', Same w (.bool false) e w' → R e w') := hR
    clear hf h e hs cc cs hsw x4 x8
    go_enter Tryz.func121, Tryz.ntmps121
    go_wp2_with fail
    exact hR.out _ _ ⟨rfl, drewN_0 _⟩
  · rw [if_neg (by omega), hsw (by omega)] at hR
    rw [e] at x5
    replace hR : Hid (∀ e w', Same w (.bool false) e w' → R e w') := hR
    clear hf h e hs cc cs hsw x4 x8
    go_enter Tryz.func121, Tryz.ntmps121
    go_wp2_with fail
    exact hR.out _ _ ⟨rfl, drewN_0 _⟩
  · rw [if_pos e] at hR
    rw [e] at x5
    unfold Mk.isW at hR
    unfold Mk.color at cc
    clear hf h e hs cs hsw x8
    cases hu : (c.m.M.ob y).isSome with
    | false =>
      rw [hu] at hR cc
      replace hR : Hid (∀ e w', Same w (.bool false) e w' → R e w') := hR
      clear hu
      go_enter Tryz.func121, Tryz.ntmps121
      go_wp2_with fail
      refine cc.mono ?_
      rintro e _ ⟨rfl, n, rfl⟩
      go_wp2_with fail
      exact hR.out _ _ ⟨rfl, n, rfl⟩
    | true =>
      rw [hu] at hR cc
      replace hR : Hid (∀ e w', Same w (.bool (decide (c.m.col y = 0))) e w' → R e w') := hR
      clear hu
      generalize c.m.col y = k at *
      by_cases hk : k = 0
      · subst hk
        replace hR : Hid (∀ e w', Same w (.bool true) e w' → R e w') := hR
        go_enter Tryz.func121, Tryz.ntmps121
        go_wp2_with fail
        refine cc.mono ?_
        rintro e _ ⟨rfl, n, rfl⟩
        go_wp2_with fail
        exact hR.out _ _ ⟨rfl, n, rfl⟩
      · rw [decide_eq_false hk] at hR
        have hkb : (k == 0) = false := by simpa using hk
        clear hk
        go_enter Tryz.func121, Tryz.ntmps121
        go_wp2_with fail
        refine cc.mono ?_
        rintro e _ ⟨rfl, n, rfl⟩
        go_wp2_with fail
        exact hR.out _ _ ⟨rfl, n, rfl⟩
  · rw [if_neg (by omega)] at hR
    rw [e] at x5
    obtain ⟨sa, sc, hv⟩ := hs.len
    rw [hv] at cs x8
    generalize c.sw.length = n at *
    generalize decide (y ∈ c.sw) = d at *
    clear hf h e hs cc hsw x4 hv
    go_enter Tryz.func121, Tryz.ntmps121
    go_wp2_with fail
    refine cs.mono ?_
    rintro e _ ⟨rfl, rfl⟩
    go_wp2_with fail
    exact hR.out _ _ ⟨rfl, drewN_0 _⟩
  · rw [if_neg (by omega), hsw (by omega)] at hR
    rw [e] at x5
    replace hR : Hid (∀ e w', Same w (.bool false) e w' → R e w') := hR
    clear hf h e hs cc cs hsw x4 x8
    go_enter Tryz.func121, Tryz.ntmps121
    go_wp2_with fail
    exact hR.out _ _ ⟨rfl, drewN_0 _⟩
def Co.nextV (c : Co) : Value :=
  if c.ph = 1 then (if c.m.list = [] then .iface 163 (.agg #[.int .i64 2]) else .iface 157 (.agg #[]))
  else if c.ph = 2 then (if c.t.ph ≠ 0 then .iface 218 (.agg #[]) else if c.m.list = [] then .iface 163 (.agg #[.int .i64 3]) else .iface 157 (.agg #[]))
  else if c.ph = 3 then (match c.sw with | [] => .iface 163 (.agg #[.int .i64 4]) | h :: _ => .iface 160 (.agg #[.int .i64 h]))
  else (if c.mv = 8 * c.pages then .iface 163 (.agg #[.int .i64 0]) else .iface 219 (.agg #[]))
theorem cnext_rep (w : World) (hf : Fam w0 w (C5 b c x ++ l)) (h : c.Okc) (hx : x.ok c) (hp : c.ph ≠ 0) : Calls Tryz.prog 112 #[.pointer (some ⟨b, 0, none⟩)] w (Same w c.nextV) := by
  refine calls_abs fun R hR => ?_
  obtain ⟨x0, _, _, _, x4, x5, _, x7, x8, x9, _⟩ := CRow.cells hf
  have cd := mdone_rep w (C5.t2 (b := b) (c := c) (x := x) (l := l)) (hb := x.hb) (p := x.p) (m := c.m) hf
  have hs := C5.sw hf
  unfold Co.nextV at hR
  rcases ph_cases h with e | e | e | e | e
  · exact absurd e hp
  · rw [if_pos e] at hR
    rw [e] at x5
    clear hf h hs x7 x8 x9 x0 hx hp e
    by_cases hl : c.m.list = []
    · rw [if_pos hl] at hR
      rw [decide_eq_true hl] at cd
      clear hl
      go_enter Tryz.func112, Tryz.ntmps112
      go_wp2_with fail
      refine cd.mono ?_
      rintro e _ ⟨rfl, rfl⟩
      go_wp2_with fail
      exact hR.out _ _ ⟨rfl, drewN_0 _⟩
    · rw [if_neg hl] at hR
      rw [decide_eq_false hl] at cd
      clear hl
      go_enter Tryz.func112, Tryz.ntmps112
      go_wp2_with fail
      refine cd.mono ?_
      rintro e _ ⟨rfl, rfl⟩
      go_wp2_with fail
      exact hR.out _ _ ⟨rfl, drewN_0 _⟩
  · rw [if_neg (by omega), if_pos e] at hR
    have hov := hx.ov e
    rw [e] at x5
    clear hf h hs x8 x9 x0 hx hp e
    by_cases ht : c.t.ph ≠ 0
    · rw [if_pos ht] at hR
      rw [decide_eq_false ht] at hov
      rw [hov] at x7
      clear cd ht hov
      go_enter Tryz.func112, Tryz.ntmps112
      go_wp2_with fail
      exact hR.out _ _ ⟨rfl, drewN_0 _⟩
    · rw [if_neg ht] at hR
      rw [decide_eq_true (Classical.not_not.1 ht)] at hov
      rw [hov] at x7
      clear ht hov
      by_cases hl : c.m.list = []
      · rw [if_pos hl] at hR
        rw [decide_eq_true hl] at cd
        clear hl
        go_enter Tryz.func112, Tryz.ntmps112
        go_wp2_with fail
        refine cd.mono ?_
        rintro e _ ⟨rfl, rfl⟩
        go_wp2_with fail
        exact hR.out _ _ ⟨rfl, drewN_0 _⟩
      · rw [if_neg hl] at hR
        rw [decide_eq_false hl] at cd
        clear hl
        go_enter Tryz.func112, Tryz.ntmps112
        go_wp2_with fail
        refine cd.mono ?_
        rintro e _ ⟨rfl, rfl⟩
        go_wp2_with fail
        exact hR.out _ _ ⟨rfl, drewN_0 _⟩
  · rw [if_neg (by omega), if_neg (by omega), if_pos e] at hR
    rw [e] at x5
    clear hf h cd x7 x9 x0 hx hp e x4
    cases hc : c.sw with
    | nil =>
      rw [hc] at hs hR
      obtain ⟨sa, sc, hv⟩ := hs.len
      rw [hv] at x8
      replace x8 : w.cell? ⟨b, 8, none⟩ = some (.slice sa 0 sc) := x8
      clear hs hv hc
      go_enter Tryz.func112, Tryz.ntmps112
      go_wp2_with fail
      exact hR.out _ _ ⟨rfl, drewN_0 _⟩
    | cons y r =>
      rw [hc] at hs hR
      obtain ⟨sa, sc, hv⟩ := hs.len
      rw [hv] at x8 hs
      obtain ⟨sb, so, hse, hcl⟩ := hs.read.at (k := 0) (by simp)
      rw [hse] at x8
      rw [Nat.add_zero] at hcl
      replace hcl : w.cell? ⟨sb, so, none⟩ = some (.int .i64 y) := hcl
      replace x8 : w.cell? ⟨b, 8, none⟩ = some (.slice (some ⟨sb, so, none⟩) (r.length + 1) sc) := x8
      replace hR : Hid (∀ e w', Same w (.iface 160 (.agg #[.int .i64 y])) e w' → R e w') := hR
      clear hs hv hc hse
      generalize r.length = n at *
      have hn1 : ((n : Int) + 1 == 0) = false := by rw [beq_eq_false_iff_ne]; omega
      have hn2 : (0 : Int) < (n : Int) + 1 := by omega
      go_enter Tryz.func112, Tryz.ntmps112
      go_wp2_with fail
      exact hR.out _ _ ⟨rfl, drewN_0 _⟩
  · rw [if_neg (by omega), if_neg (by omega), if_neg (by omega)] at hR
    have hmv := hx.mv e
    rw [hmv] at x9
    rw [e] at x5
    have hpg := h.pg
    have hm192 := h.mv
    clear hf h hs cd x7 hx hp e x4 x8 hmv
    generalize c.pages = n at *
    generalize c.mv = v at *
    have hw8 : IntKind.i64.wrap (8 * (n : Int)) = 8 * (n : Int) := IntWalk.i64_in _ (by omega)
    have hw8N : IntKind.i64.wrap (8 * (n : Int)) = ((8 * n : Nat) : Int) := hw8.trans (by omega)
    by_cases hc : v = 8 * n
    · rw [if_pos hc] at hR
      have hcb : ((v : Int) == 8 * (n : Int)) = true := by simp; omega
      clear hc hw8N
      go_enter Tryz.func112, Tryz.ntmps112
      go_wp2_with fail
      go_region
      all_goals
        go_wp2_with fail
        exact hR.out _ _ ⟨rfl, 1, rfl⟩
    · rw [if_neg hc] at hR
      have hcb : ((v : Int) == 8 * (n : Int)) = false := by rw [beq_eq_false_iff_ne]; omega
      clear hc hw8N
      go_enter Tryz.func112, Tryz.ntmps112
      go_wp2_with fail
      go_region
      all_goals
        go_wp2_with fail
        exact hR.out _ _ ⟨rfl, 1, rfl⟩
end
end Go.Proofs.YthflghdaejbdkaaGreat
namespace Go.Proofs.YthflghdaejbdkaaGreat
open Go.RowKit Go.Maps
set_option maxHeartbeats 6400000
set_option maxRecDepth 100000
set_option linter.unusedVariables false
def CDid (w0 : World) (l : List Asn) (b : Nat) (r : Int × Co) (e : Ending) (w' : World) : Prop := e = .returned (.int .i64 r.1) ∧ ∃ x' : CX, x'.ok r.2 ∧ Fam w0 w' (C5 b r.2 x' ++ l)
section
variable {w0 w : World} {l : List Asn} {b : Nat} {c : Co} {x : CX} {i : Nat}
theorem C5.alloc (hf : Fam w0 w (C5 b c x ++ l)) (o : Obj) : Fam w0 (w.alloc o) (C5 b c x ++ l) := Fam.alloc hf o
theorem C5.setPh (hf : Fam w0 w (C5 b c x ++ l)) (n : Nat) : Fam w0 (w.setCell ⟨b, 5, none⟩ (.int .i64 (n : Int))) (C5 b { c with ph := n } x ++ l) := hf.setRowC 4 rfl 5 _
theorem C5.setCr (hf : Fam w0 w (C5 b c x ++ l)) (n : Int) : Fam w0 (w.setCell ⟨b, 6, none⟩ (.int .i64 n)) (C5 b { c with cr := n } x ++ l) := hf.setRowC 4 rfl 6 _
theorem C5.setOv (hf : Fam w0 w (C5 b c x ++ l)) (v : Bool) : Fam w0 (w.setCell ⟨b, 7, none⟩ (.bool v)) (C5 b c { x with ov := v } ++ l) := hf.setRowC 4 rfl 7 _
theorem C5.setMv (hf : Fam w0 w (C5 b c x ++ l)) (n : Nat) : Fam w0 (w.setCell ⟨b, 9, none⟩ (.int .i64 (n : Int))) (C5 b c { x with mv := n } ++ l) := hf.setRowC 4 rfl 9 _
theorem C5.setSw {w1 : World} (hf : Fam w0 w (C5 b c x ++ l)) (ho : Only [] w w1) {v : Value} {s : List Int} (hi : Ints w1 w.heap.size v s) : Fam w0 (w1.setCell ⟨b, 8, none⟩ v) (C5 b { c with sw := s } { x with sv := v } ++ l) := by
  have h1 : Fam w0 w1 ((C5 b c x ++ l) ++ [IntsA v s]) := hf.addInts ho hi
  have h2 := h1.setRowC 4 rfl 8 v
  have hl5 : (C5 b c x ++ l).length = 5 + l.length := by rw [List.length_append]; rfl
  refine h2.selC (fun k => if k = 3 then 5 + l.length else k) (fun k A hk => ?_) (fun j k hj hk hne => ?_)
  · by_cases e : k = 3
    · rw [if_pos e]
      subst e
      have e2 : A = IntsA v s := by
        have h3 : (C5 b { c with sw := s } { x with sv := v } ++ l)[3]? = some (IntsA v s) := rfl
        rw [h3] at hk
        exact (Option.some.inj hk).symm
      rw [e2, List.getElem?_set_ne (by omega), List.getElem?_append_right (by omega), show 5 + l.length - (C5 b c x ++ l).length = 0 by omega]
      rfl
    · rw [if_neg e]
      have hlt := (List.getElem?_eq_some_iff.1 hk).1
      have hlen : (C5 b { c with sw := s } { x with sv := v } ++ l).length = 5 + l.length := by rw [List.length_append]; rfl
      by_cases e4 : k = 4
      · subst e4
        have h3 : (C5 b { c with sw := s } { x with sv := v } ++ l)[4]? = some (RowA b 142 (CRow b { c with sw := s } { x with sv := v })) := rfl
        rw [h3] at hk
        rw [← Option.some.inj hk]
        rw [List.getElem?_set_self (by rw [List.length_append, hl5]; omega)]
        rfl
      · rw [List.getElem?_set_ne (fun e => e4 e.symm), List.getElem?_append_left (by omega)]
        rw [← hk]
        match k, e, e4 with
        | 0, _, _ => rfl
        | 1, _, _ => rfl
        | 2, _, _ => rfl
        | k + 5, _, _ => rfl
  · have hlen : (C5 b { c with sw := s } { x with sv := v } ++ l).length = 5 + l.length := by rw [List.length_append]; rfl
    rw [hlen] at hj hk
    by_cases e : j = 3
    · rw [if_pos e]
      by_cases e2 : k = 3
      · omega
      · rw [if_neg e2]; omega
    · rw [if_neg e]
      by_cases e2 : k = 3
      · rw [if_pos e2]; omega
      · rw [if_neg e2]; exact hne
theorem C5.last {g T : Nat} {cs : List Value} (hf : Fam w0 w (C5 b c x ++ (l ++ [RowA g T cs]))) : Row w g T cs := by
  refine hf.row (5 + l.length) ?_
  have h5 : (C5 b c x).length = 5 := rfl
  rw [List.getElem?_append_right (by omega), List.getElem?_append_right (by omega), show 5 + l.length - (C5 b c x).length - l.length = 0 by omega]
  rfl
theorem step_wf {m : Mk} (h : m.Ok) : wfI m.step.1 := by
  unfold Mk.step
  cases e : m.list with
  | nil => show wfI 0; exact wfI_mk (by decide)
  | cons y t =>
    show wfI y
    have := h.inR (x := y) (by rw [e]; simp)
    exact wfI_mk (by omega)
theorem wf192 {y : Int} (h : 1 ≤ y ∧ y ≤ 192) : wfI y := wfI_mk (by omega)
theorem markdo_rep (w : World) (hf : Fam w0 w (C5 b c x ++ l)) (hx : x.ok c) (hm : c.m.Ok) : Calls Tryz.prog 298 #[.agg #[], .pointer (some ⟨b, 0, none⟩)] w (CDid w0 l b c.mark) := by
  refine calls_abs fun R hR => ?_
  have HF := Lib.hid hf
  have HM := Lib.hid hm
  have HX := Lib.hid hx
  have HW := Lib.hid (step_wf hm)
  have hlr := len_range (by have := hm.hf.ok; rw [← Mk.step_M (m := c.m)] at this; exact this : c.m.step.2.2.M.Ok) c.m.step.1
  have HR : Hid (∀ w', Fam w0 w' (C5 b (c.setM c.m.step.2.2) x ++ l) → R (.returned (.int .i64 (1 + c.m.step.2.2.M.len c.m.step.1))) w') := fun w' h => hR.out _ _ ⟨by show _ = Ending.returned (.int .i64 (1 + c.m.M.len c.m.step.1)); rw [← Mk.step_M (m := c.m)], x, ⟨hx.ov, hx.mv, hx.mv2⟩, h⟩
  clear hR hf hm hx
  go_enter Tryz.func298, Tryz.ntmps298
  go_upto_region 1 with fail
  have F1 := Lib.hid (C5.alloc HF.out (.cells #[] 157))
  obtain ⟨_, _, _, _, x4, _⟩ := CRow.cells F1.out
  have cs := mstep_rep _ (C5.t2 (b := b) (c := c) (x := x) (l := l)) (hb := x.hb) (p := x.p) F1.out HM.out
  generalize w.alloc (.cells #[] 157) = w1 at *
  go_wp2_with fail
  refine cs.mono ?_
  rintro e w2 ⟨rfl, hf⟩
  have F2 : Hid (Fam w0 w2 (C5 b (c.setM c.m.step.2.2) x ++ l)) := hf
  have cl := clength_rep w2 F2.out c.m.step.1 HW.out
  replace cl : Calls Tryz.prog 114 #[.pointer (some ⟨b, 0, none⟩), .int .i64 c.m.step.1] w2 (Same w2 (.int .i64 (c.m.step.2.2.M.len c.m.step.1))) := cl
  clear cs hf x4 F1
  generalize c.m.step.2.2.M.len c.m.step.1 = n at *
  go_wp2_with fail
  refine cl.mono ?_
  rintro e _ ⟨rfl, k, rfl⟩
  have F3 := Lib.hid (F2.out.drewN k)
  clear cl F2
  go_wp2_with fail
  exact HR.out _ F3.out
theorem hset_rep (w : World) (hf : Fam w0 w (C5 b c x ++ l)) (h s v : Int) (hh : wfI h) (hv : wfI v) : Calls Tryz.prog 127 #[.pointer (some ⟨x.hb, 0, none⟩), .int .i64 h, .int .i64 s, .int .i64 v] w (fun e w' => e = .returned (.int .i64 (c.m.M.set h s v).1) ∧ Fam w0 w' (C5 b (c.setM (c.m.put (c.m.M.set h s v).2)) x ++ l)) :=
  hf.pstep 0 rfl (M' := (c.m.M.set h s v).2) (fun hk => hk.set h s v) (fun L X hr hk => set_rep w hr hk h s v hh hv)
theorem cblank_rep (w : World) (hf : Fam w0 w (C5 b c x ++ l)) (h : Int) (hh : wfI h) : Calls Tryz.prog 304 #[.pointer (some ⟨b, 0, none⟩), .int .i64 h] w (fun e w' => e = .returned (.tuple #[]) ∧ Fam w0 w' (C5 b (c.setM (c.m.put (c.m.M.blank h))) x ++ l)) := by
  refine calls_abs fun R hR => ?_
  have HF := Lib.hid hf
  have HW := Lib.hid hh
  have cl := clength_rep w hf h hh
  have hlr := len_range (C5.ph hf).1 h
  obtain ⟨n, hn⟩ : ∃ n : Nat, c.m.M.len h = (n : Int) := ⟨(c.m.M.len h).toNat, by omega⟩
  have HB : Hid (c.m.M.blank h = c.m.M.blankS h n) := by show _ = _; unfold Hp.blank; rw [hn]; rfl
  rw [hn] at cl hlr
  rw [HB.out] at hR
  clear hf hh hn HB
  go_enter Tryz.func304, Tryz.ntmps304
  go_wp2_with fail
  refine cl.mono ?_
  rintro e _ ⟨rfl, k0, rfl⟩
  have F1 := Lib.hid (HF.out.drewN k0)
  generalize w.drewN k0 = w1 at *
  clear cl HF
  go_wp2_with fail
  go_loopw [10] (fun iv wr => ∃ k : Nat, k ≤ n ∧ iv = .int .i64 k ∧ Fam w0 wr (C5 b (c.setM (c.m.put (c.m.M.blankS h k))) x ++ l)) (fun iv _ => n - (intOf iv).toNat)
  case atStart => exact ⟨0, by omega, rfl, F1.out⟩
  case round => as_aux_lemma =>
    clear F1
    obtain ⟨k, hk, rfl, hf⟩ := hrel
    have HF := Lib.hid hf
    by_cases hlt : k < n
    · have hlt1 : (k : Int) < (n : Int) := by omega
      obtain ⟨_, _, x2, _⟩ := CRow.cells hf
      obtain ⟨hok, L, X, hp⟩ := C5.ph hf
      have c1 := isRef_rep wr hp hok h (k : Int) HW.out
      have HB : Hid (c.m.M.blankS h (k + 1) = if ((c.m.M.blankS h k).isRef h (k : Int)).1 = true then ((c.m.M.blankS h k).set h (k : Int) 0).2 else c.m.M.blankS h k) := rfl
      have c2 := hset_rep wr hf h (k : Int) 0 HW.out (wfI_mk (by decide))
      replace c1 : Calls Tryz.prog 125 #[.pointer (some ⟨x.hb, 0, none⟩), .int .i64 h, .int .i64 (k : Int)] wr (Exact wr (.tuple #[.bool ((c.m.M.blankS h k).isRef h (k : Int)).1, .int .i64 ((c.m.M.blankS h k).isRef h (k : Int)).2])) := c1
      replace c2 : Calls Tryz.prog 127 #[.pointer (some ⟨x.hb, 0, none⟩), .int .i64 h, .int .i64 (k : Int), .int .i64 0] wr (fun e w' => e = .returned (.int .i64 ((c.m.M.blankS h k).set h (k : Int) 0).1) ∧ Fam w0 w' (C5 b (c.setM (c.m.put ((c.m.M.blankS h k).set h (k : Int) 0).2)) x ++ l)) := c2
      clear hf hok hp
      cases hr : ((c.m.M.blankS h k).isRef h (k : Int)).1 with
      | true =>
        rw [hr] at c1
        have HB2 : Hid (c.m.M.blankS h (k + 1) = ((c.m.M.blankS h k).set h (k : Int) 0).2) := by show _ = _; rw [HB.out, if_pos hr]
        rw [← HB2.out] at c2
        clear HB HB2 hr
        generalize ((c.m.M.blankS h k).isRef h (k : Int)).2 = y1 at *
        generalize ((c.m.M.blankS h k).set h (k : Int) 0).1 = y2 at *
        go_wp2_with fail
        refine c1.mono ?_
        rintro e _ ⟨rfl, rfl⟩
        clear c1
        go_wp2_with fail
        refine c2.mono ?_
        rintro e w2 ⟨rfl, hf⟩
        have F2 := Lib.hid hf
        clear c2 hf HF x2
        go_wp2_with fail
        exact ⟨⟨k + 1, by omega, by go_num, F2.out⟩, by simp [intOf]; omega⟩
      | false =>
        rw [hr] at c1
        have HB2 : Hid (c.m.M.blankS h (k + 1) = c.m.M.blankS h k) := by show _ = _; rw [HB.out, if_neg (by rw [hr]; decide)]
        clear c2 HB hr
        generalize ((c.m.M.blankS h k).isRef h (k : Int)).2 = y1 at *
        go_wp2_with fail
        refine c1.mono ?_
        rintro e _ ⟨rfl, rfl⟩
        clear c1
        go_wp2_with fail
        exact ⟨⟨k + 1, by omega, by go_num, by rw [HB2.out]; exact HF.out⟩, by simp [intOf]; omega⟩
    · obtain rfl : k = n := by omega
      have hlt1 : ¬ (k : Int) < (k : Int) := by omega
      clear hf
      go_wp2_with fail
      go_end0
      exact hR.out _ _ ⟨rfl, HF.out⟩
theorem begins2_rep (w : World) (hf : Fam w0 w (C5 b c x ++ l)) (hx : x.ok c) (h : c.Okc) (hp : c.ph = 1) (hl : c.m.list = []) : Calls Tryz.prog 302 #[.agg #[.int .i64 2], .pointer (some ⟨b, 0, none⟩)] w (CDid w0 l b c.refsB) := by
  refine calls_abs fun R hR => ?_
  have F0 : Hid (Fam w0 (w.alloc (.cells #[.int .i64 2] 163)) (C5 b c x ++ (l ++ [RowA w.heap.size 163 [.int .i64 2]]))) := hf.addRow 163 [.int .i64 2]
  have HG := Lib.hid h.tg
  have hb := Pst.begin h.tg (h.mo (.inl hp)) (h.t0 (by omega)) hl
  have hmv2 := hx.mv2
  have HR : Hid (∀ w', Fam w0 w' (C5 b c.refsB.2 { x with ov := false } ++ l) → R (.returned (.int .i64 1)) w') := fun w' h2 => hR.out _ _ ⟨rfl, { x with ov := false }, ⟨fun _ => (decide_eq_false hb.1).symm, fun e => by (cases e), hmv2⟩, h2⟩
  clear hf h hb hl hp hR hx hmv2
  go_enter Tryz.func302, Tryz.ntmps302
  go_upto_region 1 with fail
  obtain ⟨g, hg⟩ : ∃ g, g = w.heap.size := ⟨_, rfl⟩
  rw [← hg] at F0 ⊢
  have r0 := C5.last F0.out
  have y0 := r0.cell 0 rfl
  obtain ⟨_, _, _, _, _, _, _, _, _, _, xf⟩ := CRow.cells F0.out
  have x5f := xf 5
  have F1 : Hid (Fam w0 ((w.alloc (.cells #[.int .i64 2] 163)).setCell ⟨b, 5, none⟩ (.int .i64 2)) (C5 b { c with ph := 2 } x ++ (l ++ [RowA g 163 [.int .i64 2]]))) := C5.setPh F0.out 2
  have r1 := C5.last F1.out
  have y1 := r1.cell 0 rfl
  have x7f := (CRow.cells F1.out).2.2.2.2.2.2.2.2.2.2 7
  have F2 : Hid (Fam w0 (((w.alloc (.cells #[.int .i64 2] 163)).setCell ⟨b, 5, none⟩ (.int .i64 2)).setCell ⟨b, 7, none⟩ (.bool false)) (C5 b { c with ph := 2 } { x with ov := false } ++ (l ++ [RowA g 163 [.int .i64 2]]))) := C5.setOv F1.out false
  generalize w.alloc (.cells #[.int .i64 2] 163) = w1 at *
  clear r0 r1 xf hg
  go_upto_region 5 with fail
  generalize (w1.setCell ⟨b, 5, none⟩ (.int .i64 2)).setCell ⟨b, 7, none⟩ (.bool false) = w2 at *
  clear y0 y1 x5f x7f F0 F1
  have HC : Hid (∀ wx, Fam w0 wx (C5 b { c with ph := 2 } { x with ov := false } ++ (l ++ [RowA g 163 [.int .i64 2]])) → Calls Tryz.prog 20 #[.pointer (some ⟨x.tb, 0, none⟩), .pointer (some ⟨x.p, 0, none⟩)] wx (fun e w' => e = .returned (.int .i64 (c.t.begin c.m).1) ∧ Fam w0 w' (C5 b { c with ph := 2, t := (c.t.begin c.m).2 } { x with ov := false } ++ (l ++ [RowA g 163 [.int .i64 2]])))) := fun wx hx => tbegin_rep wx (C5.t3 (b := b) (c := { c with ph := 2 }) (x := { x with ov := false })) (hb := x.hb) (p := x.p) (b := x.tb) (m := c.m) (t := c.t) hx HG.out
  go_region_held3 (fun w' => w'.cell? ⟨b, 3, none⟩ = some (.pointer (some ⟨x.tb, 0, none⟩)) ∧ w'.cell? ⟨b, 4, none⟩ = some (.pointer (some ⟨x.p, 0, none⟩)))
    (first | (exact ⟨(C5.row F2.out).cell 3 rfl, (C5.row F2.out).cell 4 rfl⟩) | (exact ⟨(C5.row f3).cell 3 rfl, (C5.row f3).cell 4 rfl⟩))
    (first | (go_at_call 20; refine (HC.out _ F2.out.drew).mono ?_; rintro e w3 ⟨rfl, f3⟩))
  have F3 : Hid (Fam w0 w3 (C5 b c.refsB.2 { x with ov := false } ++ l)) := by
    have f4 : Fam w0 w3 ((C5 b { c with ph := 2, t := (c.t.begin c.m).2 } { x with ov := false } ++ l) ++ [RowA g 163 [.int .i64 2]]) := f3
    exact f4.pop
  clear f3 HC F2
  go_wp2_with fail
  exact HR.out _ F3.out
end
end Go.Proofs.YthflghdaejbdkaaGreat
