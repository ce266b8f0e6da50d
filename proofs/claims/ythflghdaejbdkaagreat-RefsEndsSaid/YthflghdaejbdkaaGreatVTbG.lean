/- Lemmas of this claim. -/
import Derived.Test.YthflghdaejbdkaaGreatVTbPC
namespace Go.Proofs.YthflghdaejbdkaaGreat
open Go.RowKit Go.Maps
set_option maxHeartbeats 3200000
set_option maxRecDepth 100000
set_option linter.unusedVariables false
def QL (l : List Asn) (i j k q r b : Nat) (m : Mk) (t : Tb) : List Asn := RL (l.set k (TrA b t)) i j q r m
section
variable {l : List Asn} {i j k q r b : Nat} {m : Mk} {t : Tb} {w0 w w' : World}
theorem QL.self (h : Three l i j k) : (QL l i j k q r b m t)[k]? = some (TrA b t) := by
  unfold QL RL
  rw [List.getElem?_set_ne (Ne.symm h.kj), List.getElem?_set_ne (Ne.symm h.ki), List.getElem?_set_self h.hk]
theorem QL.put (h : Three l i j k) (t' : Tb) : (QL l i j k q r b m t).set k (TrA b t') = QL l i j k q r b m t' := by
  unfold QL RL
  rw [List.set_comm _ _ (Ne.symm h.kj), List.set_comm _ _ (Ne.symm h.ki), List.set_set]
theorem TrAt.cells {ev qv wv : Value} {nx : Nat} {wl : List Bool} (h : TrAt w b ev qv wv nx wl t) : w.cell? ⟨b, 0, none⟩ = some ev ∧ w.cell? ⟨b, 1, none⟩ = some qv ∧ w.cell? ⟨b, 2, none⟩ = some (.int .i64 (t.ph : Int)) ∧ w.cell? ⟨b, 3, none⟩ = some (.int .i64 (nx : Int)) ∧ w.cell? ⟨b, 4, none⟩ = some wv ∧ ∀ k, w.frozen? ⟨b, k, none⟩ = false := by
  obtain ⟨U, h⟩ := h.row
  exact ⟨h.cell 0 rfl, h.cell 1 rfl, h.cell 2 rfl, h.cell 3 rfl, h.cell 4 rfl, fun k => h.free k⟩
theorem TrAt.same {ev qv wv ev2 qv2 wv2 : Value} {nx nx2 : Nat} {wl wl2 : List Bool} {t2 : Tb} (h : TrAt w b ev qv wv nx wl t) (h2 : TrAt w b ev2 qv2 wv2 nx2 wl2 t2) : ev2 = ev ∧ qv2 = qv ∧ wv2 = wv := by
  have e1 := h.cells.1.symm.trans h2.cells.1
  have e2 := h.cells.2.1.symm.trans h2.cells.2.1
  have e3 := h.cells.2.2.2.2.1.symm.trans h2.cells.2.2.2.2.1
  simp only [Option.some.injEq] at e1 e2 e3
  exact ⟨e1.symm, e2.symm, e3.symm⟩
theorem QL.tr (h : Three l i j k) (hf : Fam w0 w (QL l i j k q r b m t)) : ∃ ev qv wv nx wl, TrAt w b ev qv wv nx wl t := by
  obtain ⟨S, ⟨ev, qv, wv, nx, wl, h1, _⟩, _⟩ := hf.get k (QL.self h)
  exact ⟨ev, qv, wv, nx, wl, h1⟩
def trS (b : Nat) (ev qv wv : Value) (x : Nat) : Prop := x = b ∨ ev.ownBlock = some x ∨ qv.ownBlock = some x ∨ wv.ownBlock = some x
theorem QL.trT (h : Three l i j k) (hf : Fam w0 w (QL l i j k q r b m t)) {ev qv wv : Value} {nx : Nat} {wl : List Bool} (hm : TrAt w b ev qv wv nx wl t) (ev' qv' wv' : Value) (nx' : Nat) (wl' : List Bool) (t' : Tb) (h1 : TrAt w' b ev' qv' wv' nx' wl' t')
    (h2 : ∀ x, trS b ev' qv' wv' x → trS b ev qv wv x ∨ w.heap.size ≤ x) (h3 : OnlyP (trS b ev qv wv) w w') : Fam w0 w' (QL l i j k q r b m t') := by
  rw [← QL.put h t' (t := t)]
  refine hf.turn k (QL.self h) fun S hS => ?_
  obtain ⟨ev2, qv2, wv2, nx2, wl2, hm2, hS⟩ := hS
  obtain ⟨rfl, rfl, rfl⟩ := hm.same hm2
  exact ⟨trS b ev' qv' wv', ⟨ev', qv', wv', nx', wl', h1, fun k => Iff.rfl⟩, fun k hk => (h2 k hk).imp (fun x => (hS k).2 x) id, h3.mono (fun k hk => .inl ((hS k).2 hk))⟩
theorem TrAt.rest {ev qv wv : Value} {nx : Nat} {wl : List Bool} (h : TrAt w b ev qv wv nx wl t) (ho : Only [b] w w') : Ents w' 48 0 ev t.ents ∧ Ints w' 0 qv t.q ∧ Bls w' 0 wv wl :=
  ⟨h.ents.only ho (fun g hg x => (h.n1 g hg).1 (by simpa using x)), h.q.only ho (fun g hg x => (h.n2 g hg).1 (by simpa using x)), h.wh.only ho (fun g hg x => h.n3 (by simp at x; rw [← x]; exact hg))⟩
theorem TrAt.only0 {ev qv wv : Value} {nx : Nat} {wl : List Bool} (h : TrAt w b ev qv wv nx wl t) (ho : Only [] w w') : TrAt w' b ev qv wv nx wl t := by
  obtain ⟨h1, h2, h3⟩ := h.rest (ho.mono (by simp))
  exact ⟨h.row.imp fun U x => ho.row x (by simp), h1, h2, h3, h.now, h.two, h.n1, h.n2, h.n3⟩
theorem QL.setNow (h : Three l i j k) (hf : Fam w0 w (QL l i j k q r b m t)) (ph : Nat) (hp : ph ≠ 2) (nx' : Nat) (hn : ∀ ev qv wv nx wl, TrAt w b ev qv wv nx wl t → NowIs (t.at ph nx') nx) : Fam w0 (w.setCell ⟨b, 2, none⟩ (.int .i64 (ph : Int))) (QL l i j k q r b m (t.at ph nx')) := by
  obtain ⟨ev, qv, wv, nx, wl, ht⟩ := QL.tr h hf
  have ho : Only [b] w (w.setCell ⟨b, 2, none⟩ (.int .i64 (ph : Int))) := (Only.refl _ w).set (.inl (by simp)) _
  obtain ⟨h1, h2, h3⟩ := ht.rest ho
  exact QL.trT h hf ht ev qv wv nx wl _ ⟨ht.row.imp fun U x => x.set 2 _, h1, h2, h3, hn _ _ _ _ _ ht, ⟨ht.two.1, fun e => absurd e hp⟩, ht.n1, ht.n2, ht.n3⟩ (fun x hx => .inl hx) (ho.toP (fun x hx => .inl (.inl (by simpa using hx))))
theorem QL.setNext (h : Three l i j k) (hf : Fam w0 w (QL l i j k q r b m t)) (n nx' : Nat) (hn : NowIs (t.at t.ph nx') n) : Fam w0 (w.setCell ⟨b, 3, none⟩ (.int .i64 (n : Int))) (QL l i j k q r b m (t.at t.ph nx')) := by
  obtain ⟨ev, qv, wv, nx, wl, ht⟩ := QL.tr h hf
  have ho : Only [b] w (w.setCell ⟨b, 3, none⟩ (.int .i64 (n : Int))) := (Only.refl _ w).set (.inl (by simp)) _
  obtain ⟨h1, h2, h3⟩ := ht.rest ho
  exact QL.trT h hf ht ev qv wv n wl _ ⟨ht.row.imp fun U x => x.set 3 _, h1, h2, h3, hn, ht.two, ht.n1, ht.n2, ht.n3⟩ (fun x hx => .inl hx) (ho.toP (fun x hx => .inl (.inl (by simpa using hx))))
theorem NowIs.self (t : Tb) : NowIs t t.nx := ⟨fun _ => rfl, fun _ => rfl, fun _ => rfl⟩
theorem rtlen_rep (w : World) {ev qv wv : Value} {nx : Nat} {wl : List Bool} (h : TrAt w b ev qv wv nx wl t) : Calls Tryz.prog 23 #[.pointer (some ⟨b, 0, none⟩)] w (Exact w (.int .i64 (t.ents.length : Int))) := by
  refine calls_abs fun R hR => ?_
  obtain ⟨z0, z1, z2, z3, z4, _⟩ := h.cells
  obtain ⟨a, c, rfl⟩ := h.ents.len
  clear h
  generalize t.ents.length = n at *
  go_enter Tryz.func23, Tryz.ntmps23
  go_wp2_with fail
  exact hR.out _ _ ⟨rfl, rfl⟩
theorem rtphase_rep (w : World) {ev qv wv : Value} {nx : Nat} {wl : List Bool} (h : TrAt w b ev qv wv nx wl t) : Calls Tryz.prog 14 #[.pointer (some ⟨b, 0, none⟩)] w (Exact w (.int .i64 (t.ph : Int))) := by
  refine calls_abs fun R hR => ?_
  obtain ⟨z0, z1, z2, z3, z4, _⟩ := h.cells
  clear h
  generalize t.ph = n at *
  go_enter Tryz.func14, Tryz.ntmps14
  go_wp2_with fail
  exact hR.out _ _ ⟨rfl, rfl⟩
theorem rtentry_rep (w : World) {ev qv wv : Value} {nx : Nat} {wl : List Bool} (h : TrAt w b ev qv wv nx wl t) (n : Int) : Calls Tryz.prog 230 #[.pointer (some ⟨b, 0, none⟩), .int .i64 n] w (Exact w (.int .i64 (t.entry n).2)) := by
  refine calls_abs fun R hR => ?_
  obtain ⟨z0, z1, z2, z3, z4, _⟩ := h.cells
  obtain ⟨a, c, rfl⟩ := h.ents.len
  unfold Tb.entry at hR
  clear h
  by_cases h1 : n < 0
  · rw [if_pos (.inl h1)] at hR
    generalize t.ents.length = len at *
    go_enter Tryz.func230, Tryz.ntmps230
    go_wp2_with fail
    exact hR.out _ _ ⟨rfl, rfl⟩
  · by_cases h2 : (t.ents.length : Int) ≤ n
    · rw [if_pos (.inr h2)] at hR
      generalize t.ents.length = len at *
      go_enter Tryz.func230, Tryz.ntmps230
      go_wp2_with fail
      exact hR.out _ _ ⟨rfl, rfl⟩
    · rw [if_neg (fun h => h.elim h1 h2)] at hR
      generalize t.ents.length = len at *
      go_enter Tryz.func230, Tryz.ntmps230
      go_wp2_with fail
      exact hR.out _ _ ⟨rfl, rfl⟩
theorem rttarget_rep (w : World) {ev qv wv : Value} {nx : Nat} {wl : List Bool} (h : TrAt w b ev qv wv nx wl t) (n : Int) : Calls Tryz.prog 183 #[.pointer (some ⟨b, 0, none⟩), .int .i64 n] w (Exact w (.tuple #[.int .i64 (t.target n).1, .int .i64 (t.target n).2])) := by
  refine calls_abs fun R hR => ?_
  have ce := rtentry_rep w h n
  obtain ⟨z0, z1, z2, z3, z4, _⟩ := h.cells
  have HE := Lib.hid h.ents
  unfold Tb.entry at ce
  unfold Tb.target at hR
  clear h
  by_cases h1 : n < 0 ∨ (t.ents.length : Int) ≤ n
  · rw [if_pos h1] at hR ce
    clear h1
    go_enter Tryz.func183, Tryz.ntmps183
    go_wp2_with fail
    refine ce.mono ?_
    rintro e _ ⟨rfl, rfl⟩
    go_wp2_with fail
    exact hR.out _ _ ⟨rfl, rfl⟩
  · rw [if_neg h1] at hR ce
    obtain ⟨y, rfl⟩ : ∃ y : Nat, n = (y : Int) := ⟨n.toNat, by omega⟩
    rw [Int.toNat_natCast] at hR
    have hy : y < t.ents.length := by omega
    have hy0 : (0 : Int) ≤ (y : Int) := by omega
    have hy1 : (y : Int) < (t.ents.length : Int) := by omega
    obtain ⟨g, cap, rfl, _, _, c0, c1, c2, _⟩ := HE.out.at hy
    generalize eAt t.ents y = en at *
    generalize t.ents.length = len at *
    clear h1 hy
    go_enter Tryz.func183, Tryz.ntmps183
    go_wp2_with fail
    refine ce.mono ?_
    rintro e _ ⟨rfl, rfl⟩
    go_wp2_with fail
    exact hR.out _ _ ⟨rfl, rfl⟩
theorem rtwhite_rep (w : World) (T2 : Two2 l i j) (hf : Fam w0 w (RL l i j q r m)) (x : Int) : Calls Tryz.prog 161 #[.pointer (some ⟨r, 0, none⟩), .int .i64 x] w (fun e w' => e = .returned (.bool (m.isW x)) ∧ Only [] w w') := by
  refine calls_abs fun R hR => ?_
  have cc := gcolor_rep w T2 hf x
  have hW : m.isW x = (decide ((m.color x).2 = 0) && decide ((m.color x).1 = 0)) := by
    unfold Mk.isW Mk.color
    cases h : (m.M.ob x).isSome <;> simp
  rw [hW] at hR
  clear hf hW
  generalize m.color x = rr at *
  obtain ⟨c, e⟩ := rr
  by_cases h1 : e = 0
  · subst h1
    by_cases h2 : c = 0
    · subst h2
      go_enter Tryz.func161, Tryz.ntmps161
      go_wp2_with fail
      refine cc.mono ?_
      rintro e w1 ⟨rfl, ho⟩
      have HO := Lib.hid ho
      clear ho cc
      go_wp2_with fail
      exact hR.out _ _ ⟨rfl, HO.out⟩
    · have hc : (c == 0) = false := by rw [beq_eq_false_iff_ne]; exact h2
      have hd : (decide ((0 : Int) = 0) && decide (c = 0)) = false := by simp [h2]
      replace hR : Hid (∀ e w', (e = .returned (.bool false) ∧ Only [] w w') → R e w') := by rw [← hd]; exact hR
      clear hd
      go_enter Tryz.func161, Tryz.ntmps161
      go_wp2_with fail
      refine cc.mono ?_
      rintro e w1 ⟨rfl, ho⟩
      have HO := Lib.hid ho
      clear ho cc
      go_wp2_with fail
      exact hR.out _ _ ⟨rfl, HO.out⟩
  · have hc : (e == 0) = false := by rw [beq_eq_false_iff_ne]; exact h1
    have hd : (decide (e = 0) && decide (c = 0)) = false := by simp [h1]
    replace hR : Hid (∀ e w', (e = .returned (.bool false) ∧ Only [] w w') → R e w') := by rw [← hd]; exact hR
    clear hd
    go_enter Tryz.func161, Tryz.ntmps161
    go_wp2_with fail
    refine cc.mono ?_
    rintro e w1 ⟨rfl, ho⟩
    have HO := Lib.hid ho
    clear ho cc
    go_wp2_with fail
    exact hR.out _ _ ⟨rfl, HO.out⟩
end
end Go.Proofs.YthflghdaejbdkaaGreat
