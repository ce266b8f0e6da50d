/- Lemmas of this claim. -/
import Derived.Test.YthflghdaejbdkaaKTbMap
import Derived.Laws.ResultCell
namespace Go.Proofs.Ythflghdaejbdkaa
open Go.RowKit Go.Maps
set_option maxHeartbeats 3200000
set_option maxRecDepth 100000
set_option linter.unusedVariables false
def PL (l : List Asn) (i j k hb p b : Nat) (m : Mk) (t : Tb) (kk : Nat) : List Asn := ML (l.set k (TbA b t kk)) i j hb p m
structure Three (l : List Asn) (i j k : Nat) : Prop where
  two : Two2 l i j
  hk : k < l.length
  ki : k ≠ i
  kj : k ≠ j
theorem Two2.put {l : List Asn} {i j : Nat} (h : Two2 l i j) (k : Nat) (A : Asn) : Two2 (l.set k A) i j := ⟨by rw [List.length_set]; exact h.hi, by rw [List.length_set]; exact h.hj, h.ne⟩
theorem Three.t2 {l : List Asn} {i j k : Nat} (h : Three l i j k) {A : Asn} : Two2 (l.set k A) i j := h.two.put k A
section
variable {l : List Asn} {i j k hb p b : Nat} {m : Mk} {t : Tb} {kk : Nat} {w0 w w' : World}
theorem PL.self (h : Three l i j k) : (PL l i j k hb p b m t kk)[k]? = some (TbA b t kk) := by
  unfold PL ML
  rw [List.getElem?_set_ne (Ne.symm h.kj), List.getElem?_set_ne (Ne.symm h.ki), List.getElem?_set_self h.hk]
theorem PL.put (h : Three l i j k) (t' : Tb) (kk' : Nat) : (PL l i j k hb p b m t kk).set k (TbA b t' kk') = PL l i j k hb p b m t' kk' := by
  unfold PL ML
  rw [List.set_comm _ _ (Ne.symm h.kj), List.set_comm _ _ (Ne.symm h.ki), List.set_set]
theorem TbAt.same {ev qv ev2 qv2 : Value} {mo mo2 : Option Nat} {t2 : Tb} {k2 : Nat} (h : TbAt w b ev qv mo t kk) (h2 : TbAt w b ev2 qv2 mo2 t2 k2) : ev2 = ev ∧ qv2 = qv ∧ mo2 = mo := by
  obtain ⟨U, h3⟩ := h.row
  obtain ⟨U2, h4⟩ := h2.row
  have e1 := (h3.cell 1 rfl).symm.trans (h4.cell 1 rfl)
  have e2 := (h3.cell 2 rfl).symm.trans (h4.cell 2 rfl)
  have e3 := (h3.cell 5 rfl).symm.trans (h4.cell 5 rfl)
  simp at e1 e2 e3
  exact ⟨e1.symm, e2.symm, e3.symm⟩
theorem PL.tb (h : Three l i j k) (hf : Fam w0 w (PL l i j k hb p b m t kk)) : ∃ ev qv mo, TbAt w b ev qv mo t kk := by
  obtain ⟨S, ⟨ev, qv, mo, h1, _⟩, _⟩ := hf.get k (PL.self h)
  exact ⟨ev, qv, mo, h1⟩
def tbS (b : Nat) (ev qv : Value) (mo : Option Nat) (x : Nat) : Prop := x = b ∨ ev.ownBlock = some x ∨ qv.ownBlock = some x ∨ mo = some x
theorem PL.tbT (h : Three l i j k) (hf : Fam w0 w (PL l i j k hb p b m t kk)) {ev qv : Value} {mo : Option Nat} (hm : TbAt w b ev qv mo t kk) (ev' qv' : Value) (mo' : Option Nat) (t' : Tb) (kk' : Nat) (h1 : TbAt w' b ev' qv' mo' t' kk')
    (h2 : ∀ x, tbS b ev' qv' mo' x → tbS b ev qv mo x ∨ w.heap.size ≤ x) (h3 : OnlyP (tbS b ev qv mo) w w') : Fam w0 w' (PL l i j k hb p b m t' kk') := by
  rw [← PL.put h t' kk' (t := t) (kk := kk)]
  refine hf.turn k (PL.self h) fun S hS => ?_
  obtain ⟨ev2, qv2, mo2, hm2, hS⟩ := hS
  obtain ⟨rfl, rfl, rfl⟩ := hm.same hm2
  exact ⟨tbS b ev' qv' mo', ⟨ev', qv', mo', h1, fun k => Iff.rfl⟩, fun k hk => (h2 k hk).imp (fun x => (hS k).2 x) id, h3.mono (fun k hk => .inl ((hS k).2 hk))⟩
theorem TbAt.cells {ev qv : Value} {mo : Option Nat} (h : TbAt w b ev qv mo t kk) : w.cell? ⟨b, 0, none⟩ = some (.bool true) ∧ w.cell? ⟨b, 1, none⟩ = some ev ∧ w.cell? ⟨b, 2, none⟩ = some qv ∧ w.cell? ⟨b, 3, none⟩ = some (.int .i64 (t.ph : Int)) ∧ w.cell? ⟨b, 4, none⟩ = some (.int .i64 (t.nx : Int)) ∧ w.cell? ⟨b, 5, none⟩ = some (.map mo) ∧ ∀ k, w.frozen? ⟨b, k, none⟩ = false := by
  obtain ⟨U, h⟩ := h.row
  exact ⟨h.cell 0 rfl, h.cell 1 rfl, h.cell 2 rfl, h.cell 3 rfl, h.cell 4 rfl, h.cell 5 rfl, fun k => h.free k⟩
theorem TbAt.rest {ev qv : Value} {mo : Option Nat} (h : TbAt w b ev qv mo t kk) (ho : Only [b] w w') : Ents w' 81 0 ev t.ents ∧ Ints w' 0 qv t.q ∧ ∀ mb, mo = some mb → ∃ n f, FndAt w' mb n f ∧ n ≤ 20 ∧ (t.ph = 2 → kk ≤ n ∧ ∀ i, i < kk → f i = t.fd i) :=
  ⟨h.ents.only ho (fun g hg x => (h.n1 g hg).1 (by simpa using x)), h.q.only ho (fun g hg x => (h.n2 g hg).1 (by simpa using x)), fun mb e => by
    obtain ⟨n, f, h1, h2⟩ := h.fnd mb e
    refine ⟨n, f, h1.only (ho.toP (S := fun x => x = b) (fun x hx => .inl (by simpa using hx))) (fun x => h.n3 (by rw [e, x])), h2⟩⟩
theorem TbAt.only0 {ev qv : Value} {mo : Option Nat} (h : TbAt w b ev qv mo t kk) (ho : Only [] w w') : TbAt w' b ev qv mo t kk := by
  obtain ⟨h1, h2, h3⟩ := h.rest (ho.mono (by simp))
  exact ⟨h.row.imp fun U x => ho.row x (by simp), h1, h2, h3, h.two, h.n1, h.n2, h.n3⟩
theorem PL.setNx (h : Three l i j k) (hf : Fam w0 w (PL l i j k hb p b m t kk)) (n : Nat) : Fam w0 (w.setCell ⟨b, 4, none⟩ (.int .i64 (n : Int))) (PL l i j k hb p b m (t.at t.ph n) kk) := by
  obtain ⟨ev, qv, mo, ht⟩ := PL.tb h hf
  have ho : Only [b] w (w.setCell ⟨b, 4, none⟩ (.int .i64 (n : Int))) := (Only.refl _ w).set (.inl (by simp)) _
  obtain ⟨h1, h2, h3⟩ := ht.rest ho
  exact PL.tbT h hf ht ev qv mo _ _ ⟨ht.row.imp fun U x => x.set 4 _, h1, h2, h3, ht.two, ht.n1, ht.n2, ht.n3⟩ (fun x hx => .inl hx) (ho.toP (fun x hx => .inl (.inl (by simpa using hx))))
theorem PL.setPh (h : Three l i j k) (hf : Fam w0 w (PL l i j k hb p b m t kk)) (n : Nat) : Fam w0 (w.setCell ⟨b, 3, none⟩ (.int .i64 (n : Int))) (PL l i j k hb p b m (t.at n t.nx) 0) := by
  obtain ⟨ev, qv, mo, ht⟩ := PL.tb h hf
  have ho : Only [b] w (w.setCell ⟨b, 3, none⟩ (.int .i64 (n : Int))) := (Only.refl _ w).set (.inl (by simp)) _
  obtain ⟨h1, h2, h3⟩ := ht.rest ho
  exact PL.tbT h hf ht ev qv mo _ _ ⟨ht.row.imp fun U x => x.set 3 _, h1, h2, fun mb e => by
    obtain ⟨n, f, h4, h5, _⟩ := h3 mb e
    exact ⟨n, f, h4, h5, fun _ => ⟨Nat.zero_le _, fun i hi => by omega⟩⟩, fun _ x => absurd x (by omega), ht.n1, ht.n2, ht.n3⟩ (fun x hx => .inl hx) (ho.toP (fun x hx => .inl (.inl (by simpa using hx))))
theorem PL.anyK (h : Three l i j k) (hf : Fam w0 w (PL l i j k hb p b m t kk)) (hp : t.ph ≠ 2) (kk' : Nat) (fd : Nat → Bool) : Fam w0 w (PL l i j k hb p b m ⟨t.ents, t.q, t.ph, t.nx, fd⟩ kk') := by
  obtain ⟨ev, qv, mo, ht⟩ := PL.tb h hf
  exact PL.tbT h hf ht ev qv mo _ _ ⟨ht.row, ht.ents, ht.q, fun mb e => by
    obtain ⟨n, f, h4, h5, _⟩ := ht.fnd mb e
    exact ⟨n, f, h4, h5, fun e => absurd e hp⟩, fun x => absurd x hp, ht.n1, ht.n2, ht.n3⟩ (fun x hx => .inl hx) (OnlyP.refl _ _)
theorem PL.fd0 (h : Three l i j k) (hf : Fam w0 w (PL l i j k hb p b m t 0)) (fd : Nat → Bool) : Fam w0 w (PL l i j k hb p b m ⟨t.ents, t.q, t.ph, t.nx, fd⟩ 0) := by
  obtain ⟨ev, qv, mo, ht⟩ := PL.tb h hf
  exact PL.tbT h hf ht ev qv mo _ _ ⟨ht.row, ht.ents, ht.q, fun mb e => by
    obtain ⟨n, f, h4, h5, h6⟩ := ht.fnd mb e
    exact ⟨n, f, h4, h5, fun e => ⟨Nat.zero_le _, fun i hi => by omega⟩⟩, fun _ x => absurd x (by omega), ht.n1, ht.n2, ht.n3⟩ (fun x hx => .inl hx) (OnlyP.refl _ _)
theorem PL.setMap (h : Three l i j k) (hf : Fam w0 w (PL l i j k hb p b m t kk)) : Fam w0 ((w.alloc (.map #[] 0)).setCell ⟨b, 5, none⟩ (.map (some w.heap.size))) (PL l i j k hb p b m t 0) := by
  obtain ⟨ev, qv, mo, ht⟩ := PL.tb h hf
  have ho0 : Only [] w (w.alloc (.map #[] 0)) := (Only.refl _ w).alloc _
  have ho : Only [b] w ((w.alloc (.map #[] 0)).setCell ⟨b, 5, none⟩ (.map (some w.heap.size))) := ((Only.refl _ w).alloc _).set (.inl (by simp)) _
  obtain ⟨h1, h2, h3⟩ := ht.rest ho
  have hbl : b < w.heap.size := by obtain ⟨U, hr⟩ := ht.row; exact hr.lt
  refine PL.tbT h hf ht ev qv (some w.heap.size) _ _ ⟨ht.row.imp fun U x => (x.alloc _).set 5 _, h1, h2, fun mb e => ?_, fun _ x => absurd x (by omega), fun g hg => ⟨(ht.n1 g hg).1, fun e => ?_, (ht.n1 g hg).2.2⟩, fun g hg => ⟨(ht.n2 g hg).1, fun e => ?_⟩, fun e => ?_⟩ (fun x hx => ?_) (ho.toP (fun x hx => .inl (.inl (by simpa using hx))))
  · cases e
    have hq : Only [b] (w.alloc (.map #[] 0)) ((w.alloc (.map #[] 0)).setCell ⟨b, 5, none⟩ (.map (some w.heap.size))) := (Only.refl _ _).set (.inl (by simp)) _
    exact ⟨0, t.fd, (FndAt.made w t.fd).only (hq.toP (S := fun x => x = b) (fun x hx => .inl (by simpa using hx))) (fun x => by omega), by omega, fun _ => ⟨Nat.le_refl _, fun i hi => rfl⟩⟩
  · cases e; have := (ht.ents.own _ hg).2; omega
  · cases e; have := (ht.q.own _ hg).2; omega
  · cases e; omega
  · rcases hx with hx | hx | hx | hx
    · exact .inl (.inl hx)
    · exact .inl (.inr (.inl hx))
    · exact .inl (.inr (.inr (.inl hx)))
    · cases hx; exact .inr (Nat.le_refl _)
theorem PL.setFnd (h : Three l i j k) (hf : Fam w0 w (PL l i j k hb p b m t kk)) {ev qv : Value} {mb : Nat} (ht : TbAt w b ev qv (some mb) t kk) {f : Nat → Bool} (hm : FndAt w mb kk f) (hff : ∀ i, i < kk → f i = t.fd i) (hk : kk < 20) : ∃ w', (Instr.mapUpdate 74 (.map (some mb)) (.int .i64 (kk : Int)) (.bool (t.fd kk))).run Try.prog w = .ok () w' ∧ FndAt w' mb (kk + 1) (fun j => if j = kk then t.fd kk else f j) ∧ Only [mb] w w' ∧ Fam w0 w' (PL l i j k hb p b m t (kk + 1)) ∧ TbAt w' b ev qv (some mb) t (kk + 1) := by
  obtain ⟨w', h1, h2, h3⟩ := hm.store (by omega) (t.fd kk)
  have ho : Only [mb] w w' := (Only.refl _ w).grown h3 (fun x hx => .inl (by simp at hx; simp [hx]))
  have hT : TbAt w' b ev qv (some mb) t (kk + 1) := ⟨ht.row.imp fun U x => ho.row x (by have := ht.n3; simp at this ⊢; exact fun e => this e.symm), ht.ents.only ho (fun g hg x => (ht.n1 g hg).2.1 (by simp at x; rw [x])), ht.q.only ho (fun g hg x => (ht.n2 g hg).2 (by simp at x; rw [x])), fun mb2 e => by
      cases e
      refine ⟨kk + 1, _, h2, by omega, fun _ => ⟨Nat.le_refl _, fun i hi => ?_⟩⟩
      by_cases e : i = kk
      · subst e; exact if_pos rfl
      · show (if i = kk then t.fd kk else f i) = _
        rw [if_neg e]; exact hff i (by omega), fun _ _ => by simp, ht.n1, ht.n2, ht.n3⟩
  exact ⟨w', h1, h2, ho, PL.tbT h hf ht ev qv (some mb) _ _ hT (fun x hx => .inl hx) (ho.toP (fun x hx => .inl (.inr (.inr (.inr (by simp at hx; rw [hx])))))), hT⟩
end
section
variable {l : List Asn} {i j k hb p b : Nat} {m : Mk} {t : Tb} {kk : Nat} {w0 w : World}
theorem tnone_nil (w : World) : Calls Try.prog 29 #[.pointer none] w (Exact w (.bool true)) := by
  refine calls_abs fun R hR => ?_
  go_enter Try.func29, Try.ntmps29
  go_wp2_with fail
  exact hR.out _ _ ⟨rfl, rfl⟩
theorem tnone_rep (w : World) {b : Nat} (h : w.cell? ⟨b, 0, none⟩ = some (.bool true)) : Calls Try.prog 29 #[.pointer (some ⟨b, 0, none⟩)] w (Exact w (.bool false)) := by
  refine calls_abs fun R hR => ?_
  go_enter Try.func29, Try.ntmps29
  go_wp2_with fail
  exact hR.out _ _ ⟨rfl, rfl⟩
theorem tqueue_nil (w : World) : Calls Try.prog 14 #[.pointer none] w (Exact w (.slice none 0 0)) := by
  refine calls_abs fun R hR => ?_
  go_enter Try.func14, Try.ntmps14
  go_wp2_with fail
  refine (tnone_nil _).mono ?_
  rintro e _ ⟨rfl, rfl⟩
  go_wp2_with fail
  exact hR.out _ _ ⟨rfl, rfl⟩
theorem tqueue_rep (w : World) {ev qv : Value} {mo : Option Nat} (h : TbAt w b ev qv mo t kk) (hl : t.q.length ≤ 1000000) : Calls Try.prog 14 #[.pointer (some ⟨b, 0, none⟩)] w (RetL w t.q) := by
  refine calls_abs fun R hR => ?_
  obtain ⟨z0, z1, z2, z3, z4, z5, _⟩ := h.cells
  have hn := tnone_rep w z0
  have hc := clone_ownI w qv t.q h.q hl
  obtain ⟨a, c, hv⟩ := h.q.len
  subst hv
  clear h
  generalize t.q.length = n at *
  go_enter Try.func14, Try.ntmps14
  go_wp2_with fail
  refine hn.mono ?_
  rintro e _ ⟨rfl, rfl⟩
  go_wp2_with fail
  refine hc.mono ?_
  rintro e w1 ⟨v', rfl, hi, ho⟩
  have HI := Lib.hid hi
  have HO := Lib.hid ho
  obtain ⟨a', c', rfl⟩ := hi.len
  clear hi ho hc
  generalize t.q.length = n2 at *
  go_wp2_with fail
  exact hR.out _ _ ⟨_, rfl, HI.out, HO.out⟩
theorem infoEn : (Try.prog.info? 81).map (fun i => (i.zero, i.size, i.bytes)) = some (some (.agg #[.int .i64 0, .int .i64 0, .int .i64 0]), 3, 24) := by kernel_rfl
theorem sizeEn : (Try.prog.info? 81).map (·.size) = some 3 := by kernel_rfl
theorem en_result {w : World} {rb : Nat} {x y z : Value} {U : Nat} (h : Row w rb U [x, y, z]) {fn : Func} {p u : Tmp} (hr : fn.results = #[.cell p 81, .tmp u]) (tmps : Array Value) (hp : tmps.getD p undef = .pointer (some ⟨rb, 0, none⟩)) : (results fn tmps).run Try.prog w = .ok (.tuple #[.agg #[x, y, z], tmps.getD u undef]) w := by
  have hl := run_loadVar_agg (P := Try.prog) w rb 0 81 [x, y, z] _ Try.underlying81 rfl sizeEn (fun j v hv => by rw [Nat.zero_add]; exact h.cell j hv)
  rw [results_cell_tmp hr, hp]
  simp [asAddr, Result.andThen, hl]
def enV (e : En) : Value := .agg #[.int .i64 e.kind, .int .i64 e.tgt, .int .i64 e.tag]
def En.nil : En := ⟨0, 0, 0⟩
def Tb.entry (t : Tb) (n : Int) : En × Int := if n < 0 ∨ (t.ents.length : Int) ≤ n then (En.nil, 1) else (eAt t.ents n.toNat, 0)
theorem tat_rep (w : World) {ev qv : Value} {mo : Option Nat} (h : TbAt w b ev qv mo t kk) (n : Int) : Calls Try.prog 34 #[.pointer (some ⟨b, 0, none⟩), .int .i64 n] w (fun e w' => e = .returned (.tuple #[enV (t.entry n).1, .int .i64 (t.entry n).2]) ∧ Only [] w w') := by
  refine calls_abs fun R hR => ?_
  have HO : Hid (Only [] w (w.alloc (.cells #[.int .i64 0, .int .i64 0, .int .i64 0] 81))) := (Only.refl [] w).alloc _
  have HRW : Hid (Row (w.alloc (.cells #[.int .i64 0, .int .i64 0, .int .i64 0] 81)) w.heap.size 81 [.int .i64 0, .int .i64 0, .int .i64 0]) := Row.new w _ _
  have h1 := h.only0 HO.out
  obtain ⟨z0, z1, z2, z3, z4, z5, _⟩ := h1.cells
  have hn := tnone_rep _ z0
  have HE := Lib.hid h1.ents
  clear h h1 z2 z3 z4 z5
  unfold Tb.entry at hR
  obtain ⟨a, c, rfl⟩ := HE.out.len
  have f0 := HRW.out.free 0
  have f1 := HRW.out.free 1
  have f2 := HRW.out.free 2
  have y0 := HRW.out.cell 0 rfl
  have y1 := HRW.out.cell 1 rfl
  have y2 := HRW.out.cell 2 rfl
  by_cases hb : n < 0 ∨ (t.ents.length : Int) ≤ n
  · rw [if_pos hb] at hR
    by_cases hb1 : n < 0
    · generalize t.ents.length = len at *
      clear hb
      go_enter Try.func34, Try.ntmps34
      go_wp2_with fail
      refine hn.mono ?_
      rintro e _ ⟨rfl, rfl⟩
      clear hn
      generalize hrb : w.heap.size = rb at *
      have HRB := Lib.hid hrb
      clear hrb
      generalize w.alloc (.cells #[.int .i64 0, .int .i64 0, .int .i64 0] 81) = w1 at *
      go_wp2_with fail
      refine bodyPost_ret (en_result (((HRW.out.set 0 _).set 1 _).set 2 _) rfl _ rfl) rfl ?_
      refine hR.out _ _ ⟨rfl, ?_⟩
      exact ((HO.out.set (.inr (by show _ ≤ rb; rw [HRB.out]; exact Nat.le_refl _)) _).set (.inr (by show _ ≤ rb; rw [HRB.out]; exact Nat.le_refl _)) _).set (.inr (by show _ ≤ rb; rw [HRB.out]; exact Nat.le_refl _)) _
    · have hb2 : (t.ents.length : Int) ≤ n := hb.resolve_left hb1
      generalize t.ents.length = len at *
      clear hb
      go_enter Try.func34, Try.ntmps34
      go_wp2_with fail
      refine hn.mono ?_
      rintro e _ ⟨rfl, rfl⟩
      clear hn
      generalize hrb : w.heap.size = rb at *
      have HRB := Lib.hid hrb
      clear hrb
      generalize w.alloc (.cells #[.int .i64 0, .int .i64 0, .int .i64 0] 81) = w1 at *
      go_wp2_with fail
      refine bodyPost_ret (en_result (((HRW.out.set 0 _).set 1 _).set 2 _) rfl _ rfl) rfl ?_
      refine hR.out _ _ ⟨rfl, ?_⟩
      exact ((HO.out.set (.inr (by show _ ≤ rb; rw [HRB.out]; exact Nat.le_refl _)) _).set (.inr (by show _ ≤ rb; rw [HRB.out]; exact Nat.le_refl _)) _).set (.inr (by show _ ≤ rb; rw [HRB.out]; exact Nat.le_refl _)) _
  · rw [if_neg hb] at hR
    obtain ⟨k, rfl⟩ : ∃ k : Nat, n = k := ⟨n.toNat, by omega⟩
    have hkl : k < t.ents.length := by omega
    obtain ⟨g, c2, hv, hg, hc, q0, q1, q2, _⟩ := HE.out.at hkl
    rw [Int.toNat_natCast] at hR
    have hk0 : (0 : Int) ≤ k := by omega
    have hk1 : (k : Int) < t.ents.length := by omega
    simp only [Value.slice.injEq, true_and] at hv
    obtain ⟨rfl, rfl⟩ := hv
    have HQ : Hid (∀ j v, [Value.int .i64 (eAt t.ents k).kind, .int .i64 (eAt t.ents k).tgt, .int .i64 (eAt t.ents k).tag][j]? = some v → (w.alloc (.cells #[.int .i64 0, .int .i64 0, .int .i64 0] 81)).cell? ⟨g, k * 3 + j, none⟩ = some v) := fun j v hv => by
      match j, hv with
      | 0, hv => cases hv; exact q0
      | 1, hv => cases hv; exact q1
      | 2, hv => cases hv; exact q2
      | j + 3, hv => simp at hv
    unfold enV at hR
    generalize eAt t.ents k = en at *
    generalize t.ents.length = len at *
    clear hb q0 q1 q2
    go_enter Try.func34, Try.ntmps34
    go_wp2_with fail
    refine hn.mono ?_
    rintro e _ ⟨rfl, rfl⟩
    clear hn
    generalize hrb : w.heap.size = rb at *
    have HRB := Lib.hid hrb
    clear hrb
    generalize w.alloc (.cells #[.int .i64 0, .int .i64 0, .int .i64 0] 81) = w1 at *
    go_wp2_with (refine wpList_load_agg rfl 81 _ rfl g (k * 3) rfl [.int .i64 en.kind, .int .i64 en.tgt, .int .i64 en.tag] _ Try.underlying81 rfl sizeEn HQ.out ?_)
    refine bodyPost_ret (en_result (((HRW.out.set 0 _).set 1 _).set 2 _) rfl _ rfl) rfl ?_
    refine hR.out _ _ ⟨rfl, ?_⟩
    exact ((HO.out.set (.inr (by show _ ≤ rb; rw [HRB.out]; exact Nat.le_refl _)) _).set (.inr (by show _ ≤ rb; rw [HRB.out]; exact Nat.le_refl _)) _).set (.inr (by show _ ≤ rb; rw [HRB.out]; exact Nat.le_refl _)) _
end
end Go.Proofs.Ythflghdaejbdkaa
