/- Lemmas of this claim. -/
import Derived.Test.YthflghdaejbdkaaKTbPD
import Derived.Test.YthflghdaejbdkaaKTbGood
import Derived.Deep.RegionLaw
import Derived.Deep.AppendLies
namespace Go.Proofs.Ythflghdaejbdkaa
open Go.RowKit Go.Maps
set_option maxHeartbeats 6400000
set_option maxRecDepth 100000
set_option linter.unusedVariables false
def TbF (b : Nat) (ev qv : Value) (mo : Option Nat) (t : Tb) (kk : Nat) : Asn :=
  ⟨fun w S => TbAt w b ev qv mo t kk ∧ ∀ k, S k ↔ (k = b ∨ ev.ownBlock = some k ∨ qv.ownBlock = some k ∨ mo = some k),
   fun {w w' S T} h ho hd => by
     obtain ⟨h, hS⟩ := h
     exact ⟨⟨h.row.imp fun U x => ho.row x (fun x => hd b x ((hS b).2 (.inl rfl))), h.ents.onlyP ho (fun k hk x => hd k x ((hS k).2 (.inr (.inl hk)))), h.q.onlyP ho (fun k hk x => hd k x ((hS k).2 (.inr (.inr (.inl hk))))),
      fun mb e => by
       obtain ⟨n, f, h1, h2⟩ := h.fnd mb e
       exact ⟨n, f, h1.only ho (fun x => hd mb x ((hS mb).2 (.inr (.inr (.inr e))))), h2⟩, h.two, h.n1, h.n2, h.n3⟩, hS⟩,
   fun {w S k} h hk => (TbA b t kk).lt (S := S) ⟨ev, qv, mo, h.1, h.2⟩ hk⟩
abbrev PT (l : List Asn) (i j k hb p b : Nat) (m : Mk) (t : Tb) : List Asn := PL l i j k hb p b m t t.ents.length
section
variable {l : List Asn} {i j k hb p b : Nat} {m : Mk} {t : Tb} {kk : Nat} {w0 w w' : World}
theorem PL.fixed (h : Three l i j k) (hf : Fam w0 w (PL l i j k hb p b m t kk)) {ev qv : Value} {mo : Option Nat} (ht : TbAt w b ev qv mo t kk) : Fam w0 w (ML (l.set k (TbF b ev qv mo t kk)) i j hb p m) := by
  have e : ML (l.set k (TbF b ev qv mo t kk)) i j hb p m = (PL l i j k hb p b m t kk).set k (TbF b ev qv mo t kk) := by
    unfold PL ML
    rw [List.set_comm _ _ (Ne.symm h.kj), List.set_comm _ _ (Ne.symm h.ki), List.set_set]
  rw [e]
  refine hf.turn k (PL.self h) fun S hS => ?_
  obtain ⟨ev2, qv2, mo2, hm2, hS⟩ := hS
  obtain ⟨rfl, rfl, rfl⟩ := ht.same hm2
  exact ⟨S, ⟨ht, hS⟩, fun k hk => .inl hk, OnlyP.refl _ _⟩
theorem PL.unfix (h : Three l i j k) {ev qv : Value} {mo : Option Nat} (hf : Fam w0 w (ML (l.set k (TbF b ev qv mo t kk)) i j hb p m)) : TbAt w b ev qv mo t kk ∧ Fam w0 w (PL l i j k hb p b m t kk) := by
  have hs : (ML (l.set k (TbF b ev qv mo t kk)) i j hb p m)[k]? = some (TbF b ev qv mo t kk) := by
    unfold ML
    rw [List.getElem?_set_ne (Ne.symm h.kj), List.getElem?_set_ne (Ne.symm h.ki), List.getElem?_set_self h.hk]
  have e : PL l i j k hb p b m t kk = (ML (l.set k (TbF b ev qv mo t kk)) i j hb p m).set k (TbA b t kk) := by
    unfold PL ML
    rw [List.set_comm _ _ (Ne.symm h.kj), List.set_comm _ _ (Ne.symm h.ki), List.set_set]
  obtain ⟨S, ⟨h1, _⟩, _⟩ := hf.get k hs
  refine ⟨h1, ?_⟩
  rw [e]
  exact hf.turn k hs fun S hS => ⟨S, ⟨ev, qv, mo, hS.1, hS.2⟩, fun k hk => .inl hk, OnlyP.refl _ _⟩
theorem PL.setNow (h : Three l i j k) (hf : Fam w0 w (PL l i j k hb p b m t kk)) (ph : Nat) (hp : ph ≠ 2) (kk' : Nat) : Fam w0 (((w.setCell ⟨b, 3, none⟩ (.int .i64 (ph : Int))).setCell ⟨b, 4, none⟩ (.int .i64 0)).setCell ⟨b, 5, none⟩ (.map none)) (PL l i j k hb p b m (t.at ph 0) kk') := by
  obtain ⟨ev, qv, mo, ht⟩ := PL.tb h hf
  have ho : Only [b] w (((w.setCell ⟨b, 3, none⟩ (.int .i64 (ph : Int))).setCell ⟨b, 4, none⟩ (.int .i64 0)).setCell ⟨b, 5, none⟩ (.map none)) := (((Only.refl _ w).set (.inl (by simp)) _).set (.inl (by simp)) _).set (.inl (by simp)) _
  obtain ⟨h1, h2, h3⟩ := ht.rest ho
  refine PL.tbT h hf ht ev qv none _ _ ⟨ht.row.imp fun U x => ((x.set 3 _).set 4 _).set 5 _, h1, h2, fun mb e => by (cases e), fun e => absurd e hp, fun g hg => ⟨(ht.n1 g hg).1, by simp, (ht.n1 g hg).2.2⟩, fun g hg => ⟨(ht.n2 g hg).1, by simp⟩, by simp⟩ (fun x hx => ?_) (ho.toP (fun x hx => .inl (.inl (by simpa using hx))))
  rcases hx with hx | hx | hx | hx
  · exact .inl (.inl hx)
  · exact .inl (.inr (.inl hx))
  · exact .inl (.inr (.inr (.inl hx)))
  · cases hx
theorem PL.setTgt (h : Three l i j k) (hf : Fam w0 w (PL l i j k hb p b m t kk)) {g n c : Nat} {qv : Value} {mo : Option Nat} (ht : TbAt w b (.slice (some ⟨g, 0, none⟩) n c) qv mo t kk) {x : Nat} (hx : x < t.ents.length) : TbAt (w.setCell ⟨g, x * 3 + 1, none⟩ (.int .i64 0)) b (.slice (some ⟨g, 0, none⟩) n c) qv mo ⟨t.ents.set x (eAt t.ents x).off, t.q, t.ph, t.nx, t.fd⟩ kk ∧ Fam w0 (w.setCell ⟨g, x * 3 + 1, none⟩ (.int .i64 0)) (PL l i j k hb p b m ⟨t.ents.set x (eAt t.ents x).off, t.q, t.ph, t.nx, t.fd⟩ kk) := by
  have hn := ht.n1 g rfl
  have ho : Only [g] w (w.setCell ⟨g, x * 3 + 1, none⟩ (.int .i64 0)) := (Only.refl _ w).set (.inl (by simp)) _
  have hT : TbAt (w.setCell ⟨g, x * 3 + 1, none⟩ (.int .i64 0)) b (.slice (some ⟨g, 0, none⟩) n c) qv mo ⟨t.ents.set x (eAt t.ents x).off, t.q, t.ph, t.nx, t.fd⟩ kk :=
    ⟨ht.row.imp fun U y => ho.row y (by simpa using Ne.symm hn.1), ht.ents.put hx 0 rfl, ht.q.only ho (fun z hz e => hn.2.2 (by simp at e; rw [← e]; exact hz)), fun mb e => by
      obtain ⟨n, f, h1, h2⟩ := ht.fnd mb e
      exact ⟨n, f, h1.only (ho.toP (S := fun x => x = g) (fun x hx => .inl (by simpa using hx))) (fun e2 => hn.2.1 (by rw [← e2]; exact e)), h2⟩, ht.two, ht.n1, ht.n2, ht.n3⟩
  exact ⟨hT, PL.tbT h hf ht _ qv mo _ _ hT (fun x hx => .inl hx) (ho.toP (fun x hx => .inl (.inr (.inl (by simp at hx; rw [hx]; rfl)))))⟩
theorem PL.setQ (h : Three l i j k) (hf : Fam w0 w (PL l i j k hb p b m t kk)) {ev qv : Value} {mo : Option Nat} (ht : TbAt w b ev qv mo t kk) {w2 : World} {v' : Value} {q' : List Int} (he : Ints w2 0 v' q') (ho : Only qv.ownBlock.toList w w2) (hb2 : ∀ g, v'.ownBlock = some g → qv.ownBlock = some g ∨ w.heap.size ≤ g) :
    w2.cell? ⟨b, 2, none⟩ = some qv ∧ w2.frozen? ⟨b, 2, none⟩ = false ∧ TbAt (w2.setCell ⟨b, 2, none⟩ v') b ev v' mo ⟨t.ents, q', t.ph, t.nx, t.fd⟩ kk ∧ Fam w0 (w2.setCell ⟨b, 2, none⟩ v') (PL l i j k hb p b m ⟨t.ents, q', t.ph, t.nx, t.fd⟩ kk) := by
  have hbl : b < w.heap.size := by obtain ⟨U, hr⟩ := ht.row; exact hr.lt
  have hrow : ∃ U, Row w2 b U [.bool true, ev, qv, .int .i64 (t.ph : Int), .int .i64 (t.nx : Int), .map mo] := ht.row.imp fun U x => ho.row x (fun hm => (ht.n2 b (own_mem hm)).1 rfl)
  have hP : OnlyP (fun x => x = b ∨ qv.ownBlock = some x) w (w2.setCell ⟨b, 2, none⟩ v') := ((ho.toP (S := fun x => x = b ∨ qv.ownBlock = some x) (fun x hx => .inl (.inr (own_mem hx))))).set (.inl (.inl rfl)) _
  have hs : Only [b] w2 (w2.setCell ⟨b, 2, none⟩ v') := (Only.refl _ w2).set (.inl (by simp)) _
  have hnb : ∀ g, v'.ownBlock = some g → g ≠ b ∧ mo ≠ some g ∧ ev.ownBlock ≠ some g := fun g hg => by
    rcases hb2 g hg with h | h2
    · exact ⟨(ht.n2 g h).1, (ht.n2 g h).2, fun e => (ht.n1 g e).2.2 h⟩
    · refine ⟨by omega, fun e => ?_, fun e => ?_⟩
      · obtain ⟨n, f, h1, _⟩ := ht.fnd _ e; have := h1.lt; omega
      · have := (ht.ents.own _ e).2; omega
  obtain ⟨U, hr⟩ := hrow
  have hT : TbAt (w2.setCell ⟨b, 2, none⟩ v') b ev v' mo ⟨t.ents, q', t.ph, t.nx, t.fd⟩ kk := by
    refine ⟨⟨U, hr.set 2 _⟩, ht.ents.onlyP hP (fun x hx => ?_), he.only hs (fun x hx => by have := (hnb x hx).1; simpa using this), fun mb e => ?_, ht.two, fun g hg => ⟨(ht.n1 g hg).1, (ht.n1 g hg).2.1, fun e => (hnb g e).2.2 hg⟩, fun g hg => ⟨(hnb g hg).1, (hnb g hg).2.1⟩, ht.n3⟩
    · rintro (h | h)
      · exact (ht.n1 x hx).1 h
      · exact (ht.n1 x hx).2.2 h
    · obtain ⟨n, f, h1, h2⟩ := ht.fnd mb e
      refine ⟨n, f, h1.only hP ?_, h2⟩
      rintro (h | h)
      · exact ht.n3 (by rw [← h]; exact e)
      · exact (ht.n2 mb h).2 e
  refine ⟨hr.cell 2 rfl, hr.free 2, hT, PL.tbT h hf ht ev v' mo _ _ hT (fun x hx => ?_) (hP.mono (fun x hx => .inl ?_))⟩
  · rcases hx with hx | hx | hx | hx
    · exact .inl (.inl hx)
    · exact .inl (.inr (.inl hx))
    · rcases hb2 x hx with h | h
      · exact .inl (.inr (.inr (.inl h)))
      · exact .inr h
    · exact .inl (.inr (.inr (.inr hx)))
  · rcases hx with hx | hx
    · exact .inl hx
    · exact .inr (.inr (.inl hx))
theorem Tb.Good.run (h : t.Good m) (hk : m.M.Ok) (h1 : 1 ≤ t.ph) : t.Run := ⟨h.b.le, h1, h.p4, h.nl, fun i hi => h.b.tg hk hi, h.z3⟩
theorem tsettleT (w : World) (T3 : Three l i j k) (hf : Fam w0 w (PL l i j k hb p b m t kk)) (hkk : t.ph = 2 → kk = t.ents.length) (hg : t.Good m) (h1 : 1 ≤ t.ph) : Calls Try.prog 32 #[.pointer (some ⟨b, 0, none⟩), .pointer (some ⟨p, 0, none⟩)] w (fun e w' => e = .returned (.tuple #[]) ∧ Fam w0 w' (PT l i j k hb p b m (t.settle m))) := by
  have h := tsettle_rep w T3 hf hkk (hg.run (ML.ph T3.t2 hf).1 h1)
  refine h.mono fun e w1 ⟨h1, h2⟩ => ⟨h1, ?_⟩
  show Fam w0 w1 (PL l i j k hb p b m (t.settle m) (t.settle m).ents.length)
  rw [Tb.settle_same.1]
  exact h2
theorem tbegin_rep (w : World) (T3 : Three l i j k) (hf : Fam w0 w (PT l i j k hb p b m t)) (hg : t.Good m) : Calls Try.prog 9 #[.pointer (some ⟨b, 0, none⟩), .pointer (some ⟨p, 0, none⟩)] w (fun e w' => e = .returned (.int .i64 (t.begin m).1) ∧ Fam w0 w' (PT l i j k hb p b m (t.begin m).2)) := by
  refine calls_abs fun R hR => ?_
  obtain ⟨ev, qv, mo, ht⟩ := PL.tb T3 hf
  obtain ⟨z0, z1, z2, z3, z4, z5, zf⟩ := ht.cells
  have hn := tnone_rep w z0
  have ch := mheap_rep w T3.t2 hf
  have cd := mdone_rep w T3.t2 hf
  have HF := Lib.hid hf
  have HG := Lib.hid hg
  unfold Tb.begin at hR
  by_cases hp : t.ph = 0
  rotate_left
  · rw [if_pos (.inl hp)] at hR
    have hp1 : (0 : Int) < (t.ph : Int) := by omega
    clear hf hg ht z1 z2 z4 z5 zf hp cd
    generalize t.ph = ph at *
    go_enter Try.func9, Try.ntmps9
    go_wp2_with fail
    refine hn.mono ?_
    rintro e _ ⟨rfl, rfl⟩
    go_wp2_with fail
    refine ch.mono ?_
    rintro e _ ⟨rfl, rfl⟩
    go_wp2_with fail
    exact hR.out _ _ ⟨rfl, HF.out⟩
  by_cases hl : m.list = []
  rotate_left
  · rw [if_pos (.inr hl)] at hR
    rw [decide_eq_false hl] at cd
    rw [hp] at z3
    replace z3 : w.cell? ⟨b, 3, none⟩ = some (.int .i64 0) := z3
    clear hf hg ht z1 z2 z4 z5 zf hp hl
    go_enter Try.func9, Try.ntmps9
    go_wp2_with fail
    refine hn.mono ?_
    rintro e _ ⟨rfl, rfl⟩
    go_wp2_with fail
    refine ch.mono ?_
    rintro e _ ⟨rfl, rfl⟩
    go_wp2_with fail
    refine cd.mono ?_
    rintro e _ ⟨rfl, rfl⟩
    go_wp2_with fail
    exact hR.out _ _ ⟨rfl, HF.out⟩
  · rw [if_neg (fun h => h.elim (fun h => h hp) (fun h => h hl))] at hR
    rw [decide_eq_true hl] at cd
    have hP : Fam w0 (((w.setCell ⟨b, 3, none⟩ (.int .i64 1)).setCell ⟨b, 4, none⟩ (.int .i64 0)).setCell ⟨b, 5, none⟩ (.map none)) (PL l i j k hb p b m (t.at 1 0) t.ents.length) := PL.setNow T3 hf 1 (by omega) _
    have hg1 : (t.at 1 0).Good m := ⟨hg.b.at _ _, by show 1 ≤ 4; omega, Nat.zero_le _, fun e => by simp [Tb.at] at e, fun e => by simp [Tb.at] at e⟩
    have cs := tsettleT _ T3 hP (fun e => by simp [Tb.at] at e) hg1 (Nat.le_refl 1)
    have f3 := zf 3
    have f4 := zf 4
    have f5 := zf 5
    rw [hp] at z3
    replace z3 : w.cell? ⟨b, 3, none⟩ = some (.int .i64 0) := z3
    clear hf hg ht z1 z2 hP hg1 zf hp hl
    go_enter Try.func9, Try.ntmps9
    go_wp2_with fail
    refine hn.mono ?_
    rintro e _ ⟨rfl, rfl⟩
    go_wp2_with fail
    refine ch.mono ?_
    rintro e _ ⟨rfl, rfl⟩
    go_wp2_with fail
    refine cd.mono ?_
    rintro e _ ⟨rfl, rfl⟩
    go_wp2_with fail
    refine cs.mono ?_
    rintro e w1 ⟨rfl, hf⟩
    have HF1 := Lib.hid hf
    clear hf cs cd ch hn
    go_wp2_with fail
    exact hR.out _ _ ⟨rfl, HF1.out⟩
theorem tstep_0 (w : World) (T3 : Three l i j k) (hf : Fam w0 w (PT l i j k hb p b m t)) (hg : t.Good m) (hm : m.Ok) (hp : t.ph = 0) : Calls Try.prog 33 #[.pointer (some ⟨b, 0, none⟩), .pointer (some ⟨p, 0, none⟩)] w (fun e w' => e = .returned (.tuple #[.int .i64 (t.step m).1, .int .i64 (t.step m).2.1, .int .i64 (t.step m).2.2.1]) ∧ Fam w0 w' (PT l i j k hb p b (t.step m).2.2.2.2 (t.step m).2.2.2.1)) := by
  refine calls_abs fun R hR => ?_
  obtain ⟨ev, qv, mo, ht⟩ := PL.tb T3 hf
  obtain ⟨z0, z1, z2, z3, z4, z5, zf⟩ := ht.cells
  have hn := tnone_rep w z0
  have ch := mheap_rep w T3.t2 hf
  have HF := Lib.hid hf
  unfold Tb.step at hR
  rw [if_pos hp] at hR
  rw [hp] at z3
  replace z3 : w.cell? ⟨b, 3, none⟩ = some (.int .i64 0) := z3
  clear hf hg hm ht z1 z2 z4 z5 zf hp
  go_enter Try.func33, Try.ntmps33
  go_wp2_with fail
  refine hn.mono ?_
  rintro e _ ⟨rfl, rfl⟩
  go_wp2_with fail
  refine ch.mono ?_
  rintro e _ ⟨rfl, rfl⟩
  go_wp2_with fail
  refine bodyPost_ret (results_tmp3 rfl _ _ _) rfl ?_
  exact hR.out _ _ ⟨rfl, HF.out⟩
theorem tstep_3 (w : World) (T3 : Three l i j k) (hf : Fam w0 w (PT l i j k hb p b m t)) (hg : t.Good m) (hm : m.Ok) (hp : t.ph ≠ 0) (h3 : (t.settle m).ph = 3) : Calls Try.prog 33 #[.pointer (some ⟨b, 0, none⟩), .pointer (some ⟨p, 0, none⟩)] w (fun e w' => e = .returned (.tuple #[.int .i64 (t.step m).1, .int .i64 (t.step m).2.1, .int .i64 (t.step m).2.2.1]) ∧ Fam w0 w' (PT l i j k hb p b (t.step m).2.2.2.2 (t.step m).2.2.2.1)) := by
  refine calls_abs fun R hR => ?_
  obtain ⟨ev, qv, mo, ht⟩ := PL.tb T3 hf
  obtain ⟨z0, z1, z2, z3, z4, z5, zf⟩ := ht.cells
  have hn := tnone_rep w z0
  have ch := mheap_rep w T3.t2 hf
  have cs := tsettleT w T3 hf (fun _ => rfl) hg (by omega)
  have hp0 : ((t.ph : Int) == 0) = false := by rw [beq_eq_false_iff_ne]; omega
  have HK := Lib.hid hm.hf.ok
  have HM := Lib.hid hm
  have hgs := hg.settle (m := m) hm.hf.ok
  have hst := Tb.stl_settle (m := m) (t := t) (by omega) hg.p4
  unfold Tb.step at hR
  rw [if_neg hp] at hR
  simp only at hR
  clear hf hg hm ht z1 z2 z4 z5 zf hp
  generalize t.settle m = s at *
  have HGS := Lib.hid hgs
  have HST := Lib.hid hst
  clear hgs hst
  rw [if_pos h3] at hR
  have H3 := Lib.hid h3
  clear h3
  generalize t.ph = ph at *
  go_enter Try.func33, Try.ntmps33
  go_wp2_with fail
  refine hn.mono ?_
  rintro e _ ⟨rfl, rfl⟩
  go_wp2_with fail
  refine ch.mono ?_
  rintro e _ ⟨rfl, rfl⟩
  go_wp2_with fail
  refine cs.mono ?_
  rintro e w1 ⟨rfl, hf⟩
  clear cs ch hn hp0 z0 z3
  obtain ⟨ev, qv, mo, ht⟩ := PL.tb T3 hf
  obtain ⟨z0, z1, z2, z3, z4, z5, zf⟩ := ht.cells
  rw [H3.out] at z3
  replace z3 : w1.cell? ⟨b, 3, none⟩ = some (.int .i64 3) := z3
  have HF := Lib.hid hf
  clear hf ht zf z0 z1 z2 z5
  generalize s.nx = nx at z4
  go_wp2_with fail
  go_quiet (fail)
  have hf2 := HF.out.drewN nq
  clear HF z3 z4
  generalize w1.drewN nq = w2 at *
  have cm := mstep_rep w2 T3.t2 hf2 HM.out
  clear hf2
  go_wp2_with fail
  refine cm.mono ?_
  rintro e w3 ⟨rfl, hf⟩
  have hM := Mk.step_M (m := m)
  have hg3 : s.Good m.step.2.2 := HGS.out.marker (fun k hk => by rw [hM]; exact hk)
  have cs := tsettleT w3 T3 hf (fun _ => rfl) hg3 (by have := H3.out; omega)
  clear hf hM hg3 cm
  generalize m.step = r at *
  obtain ⟨r1, r2, r3⟩ := r
  go_wp2_with fail
  refine cs.mono ?_
  rintro e w4 ⟨rfl, hf⟩
  have HF := Lib.hid hf
  clear hf cs
  go_wp2_with fail
  refine bodyPost_ret (results_tmp3 rfl _ _ _) rfl ?_
  exact hR.out _ _ ⟨rfl, HF.out⟩
theorem tstep_over (w : World) (T3 : Three l i j k) (hf : Fam w0 w (PT l i j k hb p b m t)) (hg : t.Good m) (hm : m.Ok) (hp : t.ph ≠ 0) (h3 : (t.settle m).ph ≠ 3) (hl : (t.settle m).ents.length ≤ (t.settle m).nx) : Calls Try.prog 33 #[.pointer (some ⟨b, 0, none⟩), .pointer (some ⟨p, 0, none⟩)] w (fun e w' => e = .returned (.tuple #[.int .i64 (t.step m).1, .int .i64 (t.step m).2.1, .int .i64 (t.step m).2.2.1]) ∧ Fam w0 w' (PT l i j k hb p b (t.step m).2.2.2.2 (t.step m).2.2.2.1)) := by
  refine calls_abs fun R hR => ?_
  obtain ⟨ev, qv, mo, ht⟩ := PL.tb T3 hf
  obtain ⟨z0, z1, z2, z3, z4, z5, zf⟩ := ht.cells
  have hn := tnone_rep w z0
  have ch := mheap_rep w T3.t2 hf
  have cs := tsettleT w T3 hf (fun _ => rfl) hg (by omega)
  have hp0 : ((t.ph : Int) == 0) = false := by rw [beq_eq_false_iff_ne]; omega
  have HK := Lib.hid hm.hf.ok
  have HM := Lib.hid hm
  have hgs := hg.settle (m := m) hm.hf.ok
  have hst := Tb.stl_settle (m := m) (t := t) (by omega) hg.p4
  unfold Tb.step at hR
  rw [if_neg hp] at hR
  simp only at hR
  clear hf hg hm ht z1 z2 z4 z5 zf hp
  generalize t.settle m = s at *
  have HGS := Lib.hid hgs
  have HST := Lib.hid hst
  clear hgs hst
  rw [if_neg h3, if_pos hl] at hR
  have H3 := Lib.hid h3
  have HL := Lib.hid hl
  clear h3 hl
  generalize t.ph = ph at *
  go_enter Try.func33, Try.ntmps33
  go_wp2_with fail
  refine hn.mono ?_
  rintro e _ ⟨rfl, rfl⟩
  go_wp2_with fail
  refine ch.mono ?_
  rintro e _ ⟨rfl, rfl⟩
  go_wp2_with fail
  refine cs.mono ?_
  rintro e w1 ⟨rfl, hf⟩
  clear cs ch hn hp0 z0 z3
  obtain ⟨ev, qv, mo, ht⟩ := PL.tb T3 hf
  obtain ⟨z0, z1, z2, z3, z4, z5, zf⟩ := ht.cells
  have h31 : ((s.ph : Int) == 3) = false := by rw [beq_eq_false_iff_ne]; have := H3.out; omega
  have hl1 : (s.ents.length : Int) ≤ (s.nx : Int) := by have := HL.out; omega
  have HP : Hid (∀ n, Fam w0 ((((w1.drewN n).setCell ⟨b, 3, none⟩ (.int .i64 0)).setCell ⟨b, 4, none⟩ (.int .i64 0)).setCell ⟨b, 5, none⟩ (.map none)) (PT l i j k hb p b m (s.at 0 0))) := fun n => PL.setNow T3 (hf.drewN n) 0 (by omega) _
  have f3 := zf 3
  have f4 := zf 4
  have f5 := zf 5
  obtain ⟨a, c, rfl⟩ := ht.ents.len
  clear hf ht zf z0 z2
  generalize s.ph = sp at *
  obtain ⟨nx, hnx⟩ : ∃ z, z = s.nx := ⟨_, rfl⟩
  rw [← hnx] at z4 hl1
  obtain ⟨len, hlen⟩ : ∃ z, z = s.ents.length := ⟨_, rfl⟩
  rw [← hlen] at z1 hl1
  clear hnx hlen
  go_wp2_with fail
  go_quiet (fail)
  have HP2 := Lib.hid (HP.out nq)
  have y1 : (w1.drewN nq).cell? ⟨b, 1, none⟩ = some (.slice a len c) := z1
  have y3 : (w1.drewN nq).cell? ⟨b, 3, none⟩ = some (.int .i64 (sp : Int)) := z3
  have y4 : (w1.drewN nq).cell? ⟨b, 4, none⟩ = some (.int .i64 (nx : Int)) := z4
  have y5 : (w1.drewN nq).cell? ⟨b, 5, none⟩ = some (.map mo) := z5
  have g3 : (w1.drewN nq).frozen? ⟨b, 3, none⟩ = false := f3
  have g4 : (w1.drewN nq).frozen? ⟨b, 4, none⟩ = false := f4
  have g5 : (w1.drewN nq).frozen? ⟨b, 5, none⟩ = false := f5
  clear HP z1 z3 z4 z5 f3 f4 f5
  generalize w1.drewN nq = w2 at *
  go_wp2_with fail
  refine bodyPost_ret (results_tmp3 rfl _ _ _) rfl ?_
  exact hR.out _ _ ⟨rfl, HP2.out⟩
theorem tstep_w1 (w : World) (T3 : Three l i j k) (hf : Fam w0 w (PT l i j k hb p b m t)) (hg : t.Good m) (hm : m.Ok) (hp : t.ph ≠ 0) (h3 : (t.settle m).ph ≠ 3) (hl : ¬ (t.settle m).ents.length ≤ (t.settle m).nx) (h2 : (t.settle m).ph ≠ 2) (hw : m.isW (eAt (t.settle m).ents (t.settle m).nx).tgt = true) : Calls Try.prog 33 #[.pointer (some ⟨b, 0, none⟩), .pointer (some ⟨p, 0, none⟩)] w (fun e w' => e = .returned (.tuple #[.int .i64 (t.step m).1, .int .i64 (t.step m).2.1, .int .i64 (t.step m).2.2.1]) ∧ Fam w0 w' (PT l i j k hb p b (t.step m).2.2.2.2 (t.step m).2.2.2.1)) := by
  refine calls_abs fun R hR => ?_
  obtain ⟨ev, qv, mo, ht⟩ := PL.tb T3 hf
  obtain ⟨z0, z1, z2, z3, z4, z5, zf⟩ := ht.cells
  have hn := tnone_rep w z0
  have ch := mheap_rep w T3.t2 hf
  have cs := tsettleT w T3 hf (fun _ => rfl) hg (by omega)
  have hp0 : ((t.ph : Int) == 0) = false := by rw [beq_eq_false_iff_ne]; omega
  have HK := Lib.hid hm.hf.ok
  have HM := Lib.hid hm
  have hgs := hg.settle (m := m) hm.hf.ok
  have hst := Tb.stl_settle (m := m) (t := t) (by omega) hg.p4
  unfold Tb.step at hR
  rw [if_neg hp] at hR
  simp only at hR
  clear hf hg hm ht z1 z2 z4 z5 zf hp
  generalize t.settle m = s at *
  have HGS := Lib.hid hgs
  have HST := Lib.hid hst
  clear hgs hst
  rw [if_neg h3, if_neg hl] at hR
  have H3 := Lib.hid h3
  have HL := Lib.hid hl
  have HCL : Hid (s.clear m s.nx = (⟨s.ents.set s.nx (eAt s.ents s.nx).off, s.q, s.ph, s.nx, s.fd⟩, m)) := by show _ = _; unfold Tb.clear; simp only; rw [if_neg h2, if_pos hw]
  have H2 := Lib.hid h2
  have HW := Lib.hid hw
  clear h3 hl h2 hw
  generalize t.ph = ph at *
  go_enter Try.func33, Try.ntmps33
  go_wp2_with fail
  refine hn.mono ?_
  rintro e _ ⟨rfl, rfl⟩
  go_wp2_with fail
  refine ch.mono ?_
  rintro e _ ⟨rfl, rfl⟩
  go_wp2_with fail
  refine cs.mono ?_
  rintro e w1 ⟨rfl, hf⟩
  clear cs ch hn hp0 z0 z3
  obtain ⟨ev, qv, mo, ht⟩ := PL.tb T3 hf
  obtain ⟨z0, z1, z2, z3, z4, z5, zf⟩ := ht.cells
  have hi : s.nx < s.ents.length := by have := HL.out; omega
  have h31 : ((s.ph : Int) == 3) = false := by rw [beq_eq_false_iff_ne]; have := H3.out; omega
  have hl1 : (s.nx : Int) < (s.ents.length : Int) := by omega
  have hl2 : ¬ ((s.ents.length : Int) ≤ (s.nx : Int)) := by omega
  have hl0 : (0 : Int) ≤ (s.nx : Int) := by omega
  have h20 : s.nx < 20 := by have := HGS.out.b.le; omega
  have HCG := Lib.hid (Tb.Good.clear HGS.out HST.out hi H3.out HM.out)
  rw [HCL.out] at hR HCG
  have HI := Lib.hid hi
  have HTG : Hid (wfI (eAt s.ents s.nx).tgt) := wfI_mk (by have := HGS.out.b.tg HK.out hi; omega)
  have HP1 := Lib.hid HST.out.p1
  obtain ⟨g, cap, rfl, hgl, _, c0, c1, c2, cf⟩ := ht.ents.at hi
  have HF := Lib.hid hf
  have HT := Lib.hid ht
  clear hf ht zf z0 z1 z2 z5 c0 c1 c2 cf hgl hi HGS HST H3 HL HCL
  have h22 : ((s.ph : Int) == 2) = false := by rw [beq_eq_false_iff_ne]; have := H2.out; omega
  obtain ⟨sp, hsp⟩ : ∃ z, z = s.ph := ⟨_, rfl⟩
  rw [← hsp] at z3 h31 h22
  have HSP := Lib.hid hsp
  clear hsp
  go_wp2_with fail
  go_quiet (fail)
  have hf2 := HF.out.drewN nq
  have ht2 := HT.out.only0 ((Only.refl [] w1).drewN nq)
  clear HF HT z3 z4
  generalize w1.drewN nq = w2 at *
  obtain ⟨z0, z1, z2, z3, z4, z5, zf⟩ := ht2.cells
  obtain ⟨g2, cap2, hv, hgl, _, c0, c1, c2, cf⟩ := ht2.ents.at HI.out
  simp only [Value.slice.injEq, Option.some.injEq, Addr.mk.injEq, and_true, true_and] at hv
  obtain ⟨rfl, rfl⟩ := hv
  have cw := isWhite_rep w2 T3.t2 hf2 (eAt s.ents s.nx).tgt HTG.out
  rw [HW.out] at cw
  have HF := Lib.hid hf2
  have HT := Lib.hid ht2
  clear hf2 ht2 z0 z2 z5 c0 c2 z3 z4 zf cf
  go_wp2_with fail
  refine cw.mono ?_
  rintro e _ ⟨rfl, n9, rfl⟩
  have hf3 := HF.out.drewN n9
  have ht3 := HT.out.only0 ((Only.refl [] w2).drewN n9)
  clear HF HT cw z1 c1
  generalize w2.drewN n9 = w3 at *
  obtain ⟨ht4, hf4⟩ := PL.setTgt T3 hf3 ht3 HI.out
  obtain ⟨g2, cap2, hv, _, _, _, c1, _, cf⟩ := ht3.ents.at HI.out
  simp only [Value.slice.injEq, Option.some.injEq, Addr.mk.injEq, and_true, true_and] at hv
  obtain ⟨rfl, rfl⟩ := hv
  have f1 := cf (s.nx * 3 + 1)
  have HLE : Hid (s.ents.length = (s.ents.set s.nx (eAt s.ents s.nx).off).length) := by show _ = _; rw [List.length_set]
  clear hf3 ht3 cf ht4
  have hp6 := PL.setNx T3 hf4 (s.nx + 1)
  have cs := tsettleT _ T3 hp6 (fun _ => HLE.out) HCG.out HP1.out
  have e1 : ((s.nx + 1 : Nat) : Int) = (s.nx : Int) + 1 := by omega
  rw [e1] at cs
  obtain ⟨_, _, _, hx5⟩ := PL.tb T3 hf4
  have y4 : (w3.setCell ⟨g, s.nx * 3 + 1, none⟩ (.int .i64 0)).cell? ⟨b, 4, none⟩ = some (.int .i64 (s.nx : Int)) := hx5.cells.2.2.2.2.1
  have g4 := hx5.cells.2.2.2.2.2.2 4
  clear hp6 hx5 e1 hf4
  generalize s.nx = nx at *
  generalize s.ents.length = len at *
  go_wp2_with fail
  refine cs.mono ?_
  rintro e w6 ⟨rfl, hf6⟩
  have HF6 := Lib.hid hf6
  clear cs hf6
  go_wp2_with fail
  refine bodyPost_ret (results_tmp3 rfl _ _ _) rfl ?_
  rw [HSP.out]
  exact hR.out _ _ ⟨rfl, HF6.out⟩
theorem tstep_w0 (w : World) (T3 : Three l i j k) (hf : Fam w0 w (PT l i j k hb p b m t)) (hg : t.Good m) (hm : m.Ok) (hp : t.ph ≠ 0) (h3 : (t.settle m).ph ≠ 3) (hl : ¬ (t.settle m).ents.length ≤ (t.settle m).nx) (h2 : (t.settle m).ph ≠ 2) (hw : m.isW (eAt (t.settle m).ents (t.settle m).nx).tgt = false) : Calls Try.prog 33 #[.pointer (some ⟨b, 0, none⟩), .pointer (some ⟨p, 0, none⟩)] w (fun e w' => e = .returned (.tuple #[.int .i64 (t.step m).1, .int .i64 (t.step m).2.1, .int .i64 (t.step m).2.2.1]) ∧ Fam w0 w' (PT l i j k hb p b (t.step m).2.2.2.2 (t.step m).2.2.2.1)) := by
  refine calls_abs fun R hR => ?_
  obtain ⟨ev, qv, mo, ht⟩ := PL.tb T3 hf
  obtain ⟨z0, z1, z2, z3, z4, z5, zf⟩ := ht.cells
  have hn := tnone_rep w z0
  have ch := mheap_rep w T3.t2 hf
  have cs := tsettleT w T3 hf (fun _ => rfl) hg (by omega)
  have hp0 : ((t.ph : Int) == 0) = false := by rw [beq_eq_false_iff_ne]; omega
  have HK := Lib.hid hm.hf.ok
  have HM := Lib.hid hm
  have hgs := hg.settle (m := m) hm.hf.ok
  have hst := Tb.stl_settle (m := m) (t := t) (by omega) hg.p4
  unfold Tb.step at hR
  rw [if_neg hp] at hR
  simp only at hR
  clear hf hg hm ht z1 z2 z4 z5 zf hp
  generalize t.settle m = s at *
  have HGS := Lib.hid hgs
  have HST := Lib.hid hst
  clear hgs hst
  rw [if_neg h3, if_neg hl] at hR
  have H3 := Lib.hid h3
  have HL := Lib.hid hl
  have HCL : Hid (s.clear m s.nx = (s, m)) := by show _ = _; unfold Tb.clear; simp only; rw [if_neg h2, if_neg (by rw [hw]; simp)]
  have H2 := Lib.hid h2
  have HW := Lib.hid hw
  clear h3 hl h2 hw
  generalize t.ph = ph at *
  go_enter Try.func33, Try.ntmps33
  go_wp2_with fail
  refine hn.mono ?_
  rintro e _ ⟨rfl, rfl⟩
  go_wp2_with fail
  refine ch.mono ?_
  rintro e _ ⟨rfl, rfl⟩
  go_wp2_with fail
  refine cs.mono ?_
  rintro e w1 ⟨rfl, hf⟩
  clear cs ch hn hp0 z0 z3
  obtain ⟨ev, qv, mo, ht⟩ := PL.tb T3 hf
  obtain ⟨z0, z1, z2, z3, z4, z5, zf⟩ := ht.cells
  have hi : s.nx < s.ents.length := by have := HL.out; omega
  have h31 : ((s.ph : Int) == 3) = false := by rw [beq_eq_false_iff_ne]; have := H3.out; omega
  have hl1 : (s.nx : Int) < (s.ents.length : Int) := by omega
  have hl2 : ¬ ((s.ents.length : Int) ≤ (s.nx : Int)) := by omega
  have hl0 : (0 : Int) ≤ (s.nx : Int) := by omega
  have h20 : s.nx < 20 := by have := HGS.out.b.le; omega
  have HCG := Lib.hid (Tb.Good.clear HGS.out HST.out hi H3.out HM.out)
  rw [HCL.out] at hR HCG
  have HI := Lib.hid hi
  have HTG : Hid (wfI (eAt s.ents s.nx).tgt) := wfI_mk (by have := HGS.out.b.tg HK.out hi; omega)
  have HP1 := Lib.hid HST.out.p1
  obtain ⟨g, cap, rfl, hgl, _, c0, c1, c2, cf⟩ := ht.ents.at hi
  have HF := Lib.hid hf
  have HT := Lib.hid ht
  clear hf ht zf z0 z1 z2 z5 c0 c1 c2 cf hgl hi HGS HST H3 HL HCL
  have h22 : ((s.ph : Int) == 2) = false := by rw [beq_eq_false_iff_ne]; have := H2.out; omega
  obtain ⟨sp, hsp⟩ : ∃ z, z = s.ph := ⟨_, rfl⟩
  rw [← hsp] at z3 h31 h22
  have HSP := Lib.hid hsp
  clear hsp
  go_wp2_with fail
  go_quiet (fail)
  have hf2 := HF.out.drewN nq
  have ht2 := HT.out.only0 ((Only.refl [] w1).drewN nq)
  clear HF HT z3 z4
  generalize w1.drewN nq = w2 at *
  obtain ⟨z0, z1, z2, z3, z4, z5, zf⟩ := ht2.cells
  obtain ⟨g2, cap2, hv, hgl, _, c0, c1, c2, cf⟩ := ht2.ents.at HI.out
  simp only [Value.slice.injEq, Option.some.injEq, Addr.mk.injEq, and_true, true_and] at hv
  obtain ⟨rfl, rfl⟩ := hv
  have cw := isWhite_rep w2 T3.t2 hf2 (eAt s.ents s.nx).tgt HTG.out
  rw [HW.out] at cw
  have HF := Lib.hid hf2
  have HT := Lib.hid ht2
  clear hf2 ht2 z0 z2 z5 c0 c2 z3 z4 zf cf
  go_wp2_with fail
  refine cw.mono ?_
  rintro e _ ⟨rfl, n9, rfl⟩
  have hf3 := HF.out.drewN n9
  have ht3 := HT.out.only0 ((Only.refl [] w2).drewN n9)
  clear HF HT cw z1 c1
  generalize w2.drewN n9 = w3 at *
  have HLE : Hid (s.ents.length = s.ents.length) := rfl
  clear ht3
  have hp6 := PL.setNx T3 hf3 (s.nx + 1)
  have cs := tsettleT _ T3 hp6 (fun _ => HLE.out) HCG.out HP1.out
  have e1 : ((s.nx + 1 : Nat) : Int) = (s.nx : Int) + 1 := by omega
  rw [e1] at cs
  obtain ⟨_, _, _, hx5⟩ := PL.tb T3 hf3
  have y4 : w3.cell? ⟨b, 4, none⟩ = some (.int .i64 (s.nx : Int)) := hx5.cells.2.2.2.2.1
  have g4 := hx5.cells.2.2.2.2.2.2 4
  clear hp6 hx5 e1 hf3
  generalize s.nx = nx at *
  generalize s.ents.length = len at *
  go_wp2_with fail
  refine cs.mono ?_
  rintro e w6 ⟨rfl, hf6⟩
  have HF6 := Lib.hid hf6
  clear cs hf6
  go_wp2_with fail
  refine bodyPost_ret (results_tmp3 rfl _ _ _) rfl ?_
  rw [HSP.out]
  exact hR.out _ _ ⟨rfl, HF6.out⟩
theorem PL.queued (h : Three l i j k) (hf : Fam w0 w (PL l i j k hb p b m t kk)) {ev qv : Value} {mo : Option Nat} (ht : TbAt w b ev qv mo t kk) (o : Obj) {w3 : World} {gg cap n : Nat} {q' : List Int} (hl : q'.length = n) (hown : w3.ownsRow 0 3 1 (.slice (some ⟨gg, 0, none⟩) n cap) n (q'.map (Value.int .i64))) (hgrow : (w.alloc o).drew.grownBy w3 qv.ownBlock) (hat : qv.ownBlock = some gg ∨ gg = w.heap.size + 1) :
    w3.cell? ⟨b, 2, none⟩ = some qv ∧ w3.frozen? ⟨b, 2, none⟩ = false ∧ TbAt (w3.setCell ⟨b, 2, none⟩ (.slice (some ⟨gg, 0, none⟩) n cap)) b ev (.slice (some ⟨gg, 0, none⟩) n cap) mo ⟨t.ents, q', t.ph, t.nx, t.fd⟩ kk ∧ Fam w0 (w3.setCell ⟨b, 2, none⟩ (.slice (some ⟨gg, 0, none⟩) n cap)) (PL l i j k hb p b m ⟨t.ents, q', t.ph, t.nx, t.fd⟩ kk) := by
  have ho : Only [] w (w.alloc o).drew := ((Only.refl [] w).alloc o).drew
  refine PL.setQ h (hf.only0 ho) (ht.only0 ho) (by unfold Ints; rw [hl]; exact hown) ((Only.refl _ _).grown hgrow (fun k hk => .inl (by rw [hk]; simp))) (fun g hg => ?_)
  cases hg
  rcases hat with h | h
  · exact .inl h
  · refine .inr ?_
    show (w.alloc o).heap.size ≤ _
    rw [h]; simp
theorem tstep_f0 (w : World) (T3 : Three l i j k) (hf : Fam w0 w (PT l i j k hb p b m t)) (hg : t.Good m) (hm : m.Ok) (hp : t.ph ≠ 0) (h3 : (t.settle m).ph ≠ 3) (hl : ¬ (t.settle m).ents.length ≤ (t.settle m).nx) (h2 : (t.settle m).ph = 2) (hw : (t.settle m).fd (t.settle m).nx = false) : Calls Try.prog 33 #[.pointer (some ⟨b, 0, none⟩), .pointer (some ⟨p, 0, none⟩)] w (fun e w' => e = .returned (.tuple #[.int .i64 (t.step m).1, .int .i64 (t.step m).2.1, .int .i64 (t.step m).2.2.1]) ∧ Fam w0 w' (PT l i j k hb p b (t.step m).2.2.2.2 (t.step m).2.2.2.1)) := by
  refine calls_abs fun R hR => ?_
  obtain ⟨ev, qv, mo, ht⟩ := PL.tb T3 hf
  obtain ⟨z0, z1, z2, z3, z4, z5, zf⟩ := ht.cells
  have hn := tnone_rep w z0
  have ch := mheap_rep w T3.t2 hf
  have cs := tsettleT w T3 hf (fun _ => rfl) hg (by omega)
  have hp0 : ((t.ph : Int) == 0) = false := by rw [beq_eq_false_iff_ne]; omega
  have HK := Lib.hid hm.hf.ok
  have HM := Lib.hid hm
  have hgs := hg.settle (m := m) hm.hf.ok
  have hst := Tb.stl_settle (m := m) (t := t) (by omega) hg.p4
  unfold Tb.step at hR
  rw [if_neg hp] at hR
  simp only at hR
  clear hf hg hm ht z1 z2 z4 z5 zf hp
  generalize t.settle m = s at *
  have HGS := Lib.hid hgs
  have HST := Lib.hid hst
  clear hgs hst
  rw [if_neg h3, if_neg hl] at hR
  have H3 := Lib.hid h3
  have HL := Lib.hid hl
  have HCL : Hid (s.clear m s.nx = (s, m)) := by show _ = _; unfold Tb.clear; simp only; rw [if_pos h2, if_neg (by rw [hw]; simp)]
  have H2 := Lib.hid h2
  have HW := Lib.hid hw
  clear h3 hl h2 hw
  generalize t.ph = ph at *
  go_enter Try.func33, Try.ntmps33
  go_wp2_with fail
  refine hn.mono ?_
  rintro e _ ⟨rfl, rfl⟩
  go_wp2_with fail
  refine ch.mono ?_
  rintro e _ ⟨rfl, rfl⟩
  go_wp2_with fail
  refine cs.mono ?_
  rintro e w1 ⟨rfl, hf⟩
  clear cs ch hn hp0 z0 z3
  obtain ⟨ev, qv, mo, ht⟩ := PL.tb T3 hf
  obtain ⟨z0, z1, z2, z3, z4, z5, zf⟩ := ht.cells
  have hi : s.nx < s.ents.length := by have := HL.out; omega
  have h31 : ((s.ph : Int) == 3) = false := by rw [beq_eq_false_iff_ne]; have := H3.out; omega
  have hl1 : (s.nx : Int) < (s.ents.length : Int) := by omega
  have hl2 : ¬ ((s.ents.length : Int) ≤ (s.nx : Int)) := by omega
  have hl0 : (0 : Int) ≤ (s.nx : Int) := by omega
  have h20 : s.nx < 20 := by have := HGS.out.b.le; omega
  have HCG := Lib.hid (Tb.Good.clear HGS.out HST.out hi H3.out HM.out)
  rw [HCL.out] at hR HCG
  have HI := Lib.hid hi
  have HTG : Hid (wfI (eAt s.ents s.nx).tgt) := wfI_mk (by have := HGS.out.b.tg HK.out hi; omega)
  have HP1 := Lib.hid HST.out.p1
  obtain ⟨g, cap, rfl, hgl, _, c0, c1, c2, cf⟩ := ht.ents.at hi
  have HF := Lib.hid hf
  have HT := Lib.hid ht
  clear hf ht zf z0 z1 z2 z5 c0 c1 c2 cf hgl hi HGS HST H3 HL HCL
  have h22 : ((s.ph : Int) == 2) = true := by rw [H2.out]; rfl
  obtain ⟨sp, hsp⟩ : ∃ z, z = s.ph := ⟨_, rfl⟩
  rw [← hsp] at z3 h31 h22
  have HSP := Lib.hid hsp
  clear hsp
  go_wp2_with fail
  go_quiet (fail)
  have hf2 := HF.out.drewN nq
  have ht2 := HT.out.only0 ((Only.refl [] w1).drewN nq)
  clear HF HT z3 z4
  generalize w1.drewN nq = w2 at *
  obtain ⟨z0, z1, z2, z3, z4, z5, zf⟩ := ht2.cells
  obtain ⟨g2, cap2, hv, hgl, _, c0, c1, c2, cf⟩ := ht2.ents.at HI.out
  simp only [Value.slice.injEq, Option.some.injEq, Addr.mk.injEq, and_true, true_and] at hv
  obtain ⟨rfl, rfl⟩ := hv
  have h2n : s.ph = 2 := H2.out
  have hmo : mo ≠ none := ht2.two h2n (by have := HI.out; omega)
  obtain ⟨mb, rfl⟩ : ∃ mb, mo = some mb := by
    cases mo with
    | none => exact absurd rfl hmo
    | some mb => exact ⟨mb, rfl⟩
  obtain ⟨fn, ff, hfd, hf20, hfk⟩ := ht2.fnd mb rfl
  obtain ⟨hf1, hf3⟩ := hfk h2n
  have hlook := hfd.look (k := s.nx) (by have := HI.out; omega) (by omega)
  rw [hf3 s.nx HI.out, HW.out] at hlook
  have HLE : Hid (s.ents.length = s.ents.length) := rfl
  have hf3 := hf2
  clear hf2 ht2 hmo hfd hf20 hfk hf1 z0 z2 zf c0 c1 c2 cf h2n z3 z4
  have hp6 := PL.setNx T3 hf3 (s.nx + 1)
  have cs := tsettleT _ T3 hp6 (fun _ => HLE.out) HCG.out HP1.out
  have e1 : ((s.nx + 1 : Nat) : Int) = (s.nx : Int) + 1 := by omega
  rw [e1] at cs
  obtain ⟨_, _, _, hx5⟩ := PL.tb T3 hf3
  have y4 : w2.cell? ⟨b, 4, none⟩ = some (.int .i64 (s.nx : Int)) := hx5.cells.2.2.2.2.1
  have g4 := hx5.cells.2.2.2.2.2.2 4
  clear hp6 hx5 e1 hf3
  generalize s.nx = nx at *
  generalize s.ents.length = len at *
  go_wp2_with fail
  refine cs.mono ?_
  rintro e w6 ⟨rfl, hf6⟩
  have HF6 := Lib.hid hf6
  clear cs hf6
  go_wp2_with fail
  refine bodyPost_ret (results_tmp3 rfl _ _ _) rfl ?_
  rw [HSP.out]
  exact hR.out _ _ ⟨rfl, HF6.out⟩
theorem tstep_f1 (w : World) (T3 : Three l i j k) (hf : Fam w0 w (PT l i j k hb p b m t)) (hg : t.Good m) (hm : m.Ok) (hp : t.ph ≠ 0) (h3 : (t.settle m).ph ≠ 3) (hl : ¬ (t.settle m).ents.length ≤ (t.settle m).nx) (h2 : (t.settle m).ph = 2) (hw : (t.settle m).fd (t.settle m).nx = true) : Calls Try.prog 33 #[.pointer (some ⟨b, 0, none⟩), .pointer (some ⟨p, 0, none⟩)] w (fun e w' => e = .returned (.tuple #[.int .i64 (t.step m).1, .int .i64 (t.step m).2.1, .int .i64 (t.step m).2.2.1]) ∧ Fam w0 w' (PT l i j k hb p b (t.step m).2.2.2.2 (t.step m).2.2.2.1)) := by
  refine calls_abs fun R hR => ?_
  obtain ⟨ev, qv, mo, ht⟩ := PL.tb T3 hf
  obtain ⟨z0, z1, z2, z3, z4, z5, zf⟩ := ht.cells
  have hn := tnone_rep w z0
  have ch := mheap_rep w T3.t2 hf
  have cs := tsettleT w T3 hf (fun _ => rfl) hg (by omega)
  have hp0 : ((t.ph : Int) == 0) = false := by rw [beq_eq_false_iff_ne]; omega
  have HK := Lib.hid hm.hf.ok
  have HM := Lib.hid hm
  have hgs := hg.settle (m := m) hm.hf.ok
  have hst := Tb.stl_settle (m := m) (t := t) (by omega) hg.p4
  unfold Tb.step at hR
  rw [if_neg hp] at hR
  simp only at hR
  clear hf hg hm ht z1 z2 z4 z5 zf hp
  generalize t.settle m = s at *
  have HGS := Lib.hid hgs
  have HST := Lib.hid hst
  clear hgs hst
  rw [if_neg h3, if_neg hl] at hR
  have H3 := Lib.hid h3
  have HL := Lib.hid hl
  have HCL : Hid (s.clear m s.nx = (⟨s.ents.set s.nx (eAt s.ents s.nx).off, s.q ++ [(eAt s.ents s.nx).tag], s.ph, s.nx, s.fd⟩, m.shade (eAt s.ents s.nx).tgt)) := by show _ = _; unfold Tb.clear; simp only; rw [if_pos h2, if_pos hw]
  have H2 := Lib.hid h2
  have HW := Lib.hid hw
  have HQ20 : Hid (s.q.length ≤ 20) := HGS.out.b.q20
  clear h3 hl h2 hw
  generalize t.ph = ph at *
  go_enter Try.func33, Try.ntmps33
  go_wp2_with fail
  refine hn.mono ?_
  rintro e _ ⟨rfl, rfl⟩
  go_wp2_with fail
  refine ch.mono ?_
  rintro e _ ⟨rfl, rfl⟩
  go_wp2_with fail
  refine cs.mono ?_
  rintro e w1 ⟨rfl, hf⟩
  clear cs ch hn hp0 z0 z3
  obtain ⟨ev, qv, mo, ht⟩ := PL.tb T3 hf
  obtain ⟨z0, z1, z2, z3, z4, z5, zf⟩ := ht.cells
  have hi : s.nx < s.ents.length := by have := HL.out; omega
  have h31 : ((s.ph : Int) == 3) = false := by rw [beq_eq_false_iff_ne]; have := H3.out; omega
  have hl1 : (s.nx : Int) < (s.ents.length : Int) := by omega
  have hl2 : ¬ ((s.ents.length : Int) ≤ (s.nx : Int)) := by omega
  have hl0 : (0 : Int) ≤ (s.nx : Int) := by omega
  have h20 : s.nx < 20 := by have := HGS.out.b.le; omega
  have HCG := Lib.hid (Tb.Good.clear HGS.out HST.out hi H3.out HM.out)
  rw [HCL.out] at hR HCG
  have HI := Lib.hid hi
  have HTG : Hid (wfI (eAt s.ents s.nx).tgt) := wfI_mk (by have := HGS.out.b.tg HK.out hi; omega)
  have HP1 := Lib.hid HST.out.p1
  obtain ⟨g, cap, rfl, hgl, _, c0, c1, c2, cf⟩ := ht.ents.at hi
  have HF := Lib.hid hf
  have HT := Lib.hid ht
  clear hf ht zf z0 z1 z2 z5 c0 c1 c2 cf hgl hi HGS HST H3 HL HCL
  have h22 : ((s.ph : Int) == 2) = true := by rw [H2.out]; rfl
  obtain ⟨sp, hsp⟩ : ∃ z, z = s.ph := ⟨_, rfl⟩
  rw [← hsp] at z3 h31 h22
  have HSP := Lib.hid hsp
  clear hsp
  go_wp2_with fail
  go_quiet (fail)
  have hf2 := HF.out.drewN nq
  have ht2 := HT.out.only0 ((Only.refl [] w1).drewN nq)
  clear HF HT z3 z4
  generalize w1.drewN nq = w2 at *
  obtain ⟨z0, z1, z2, z3, z4, z5, zf⟩ := ht2.cells
  obtain ⟨g2, cap2, hv, hgl, _, c0, c1, c2, cf⟩ := ht2.ents.at HI.out
  simp only [Value.slice.injEq, Option.some.injEq, Addr.mk.injEq, and_true, true_and] at hv
  obtain ⟨rfl, rfl⟩ := hv
  have h2n : s.ph = 2 := H2.out
  have hmo : mo ≠ none := ht2.two h2n (by have := HI.out; omega)
  obtain ⟨mb, rfl⟩ : ∃ mb, mo = some mb := by
    cases mo with
    | none => exact absurd rfl hmo
    | some mb => exact ⟨mb, rfl⟩
  obtain ⟨fn, ff, hfd, hf20, hfk⟩ := ht2.fnd mb rfl
  obtain ⟨hf1, hf3⟩ := hfk h2n
  have hlook := hfd.look (k := s.nx) (by have := HI.out; omega) (by omega)
  rw [hf3 s.nx HI.out, HW.out] at hlook
  have HLE : Hid (s.ents.length = (s.ents.set s.nx (eAt s.ents s.nx).off).length) := by show _ = _; rw [List.length_set]
  have HF := Lib.hid hf2
  have HT := Lib.hid ht2
  have hqi := ht2.q
  obtain ⟨qa, qc, rfl⟩ := hqi.len
  obtain ⟨qn, hqn⟩ : ∃ z, z = s.q.length := ⟨_, rfl⟩
  have HQN := Lib.hid hqn
  have HQI : Hid (w2.ownsRow 0 3 1 (.slice qa qn qc) qn (s.q.map (Value.int .i64))) := by rw [hqn]; exact hqi
  rw [← hqn] at z2
  have hq20 : qn ≤ 20 := by rw [hqn]; exact HQ20.out
  obtain ⟨i0, hi0, hz0, hz1, hz2⟩ := info_parts infoInt
  have I0 := Lib.hid hi0
  have I1 := Lib.hid hz0
  have I2 := Lib.hid hz1
  have I3 := Lib.hid hz2
  have z2f := zf 2
  clear hf2 ht2 hmo hfd hf20 hfk hf1 hf3 z0 zf c0 c1 cf h2n z3 z4 hqi hqn hi0 hz0 hz1 hz2
  generalize htag : (eAt s.ents s.nx).tag = tag at *
  have z2a : (w2.alloc (.cells #[.int .i64 tag] 3)).cell? ⟨b, 2, none⟩ = some (.slice qa qn qc) := by
    rw [HQN.out]; exact (HT.out.only0 ((Only.refl [] w2).alloc (.cells #[.int .i64 tag] 3))).cells.2.2.1
  go_wp2_with fail
  go_region_law ((refine step_append_lies _ (by rfl) _ _ 23 (by rfl) 0 3 i0 _ 1 8 Try.underlying23 I0.out I1.out I2.out I3.out rfl (by omega) _ qn _ (by rfl) ((HQI.out.alloc _).drew) ⟨w2.heap.size, 0, none⟩ 1 1 [.int .i64 tag] (by rfl) (by rfl) (World.news_of_block (cs := #[.int .i64 tag]) (t := 3) (fr := (0, 0)) (heap_alloc_new w2 _)) (by simp [Value.oneCell']) (by omega) (by simp only [maxLen]; omega) (by omega) (by simp) (w2.heap.size + 1) (by simp) ?_; intro gg cap2 w3 hown hgrow hat hlt; have hq3 := PL.queued T3 HF.out HT.out _ (n := qn + 1) (q' := s.q ++ [tag]) (by simp [← HQN.out]) (by simpa using hown) (by rw [← HQN.out]; exact hgrow) (by rw [← HQN.out]; exact hat); obtain ⟨cp, fp, hq4⟩ := hq3; rw [← HQN.out] at cp; have HQ4 := Lib.hid hq4; clear hq4 hown hgrow hat hlt))
  all_goals (
    obtain ⟨ht4, hf4⟩ := HQ4.out
    obtain ⟨g2, cap3, hv, _, _, _, c1, _, cf⟩ := ht4.ents.at HI.out
    simp only [Value.slice.injEq, Option.some.injEq, Addr.mk.injEq, and_true, true_and] at hv
    obtain ⟨rfl, rfl⟩ := hv
    replace c1 : _ = some (Value.int .i64 (eAt s.ents s.nx).tgt) := c1
    have csh := mshade_rep _ T3.t2 (PL.fixed T3 hf4 ht4) HM.out (eAt s.ents s.nx).tgt HTG.out
    clear ht4 hf4 HQ4 cp fp cf c2 z2 z2a z2f hlook z5 z1 HQI
    generalize (w3.setCell ⟨b, 2, none⟩ _) = w4 at *
    go_wp2_with fail
    refine csh.mono ?_
    rintro e w5 ⟨rfl, hf5⟩
    obtain ⟨ht5, hf5⟩ := PL.unfix T3 hf5
    obtain ⟨ht6, hf6⟩ := PL.setTgt T3 hf5 ht5 HI.out
    obtain ⟨g2, cap3, hv, _, _, _, d1, _, cf⟩ := ht5.ents.at HI.out
    simp only [Value.slice.injEq, Option.some.injEq, Addr.mk.injEq, and_true, true_and] at hv
    obtain ⟨rfl, rfl⟩ := hv
    have f1 := cf (s.nx * 3 + 1)
    clear hf5 ht5 cf ht6 csh c1
    have hp6 := PL.setNx T3 hf6 (s.nx + 1)
    have cs := tsettleT _ T3 hp6 (fun _ => HLE.out) HCG.out HP1.out
    have e1 : ((s.nx + 1 : Nat) : Int) = (s.nx : Int) + 1 := by omega
    rw [e1] at cs
    obtain ⟨_, _, _, hx5⟩ := PL.tb T3 hf6
    have y4 : (w5.setCell ⟨g, s.nx * 3 + 1, none⟩ (.int .i64 0)).cell? ⟨b, 4, none⟩ = some (.int .i64 (s.nx : Int)) := hx5.cells.2.2.2.2.1
    have g4 := hx5.cells.2.2.2.2.2.2 4
    clear hp6 hx5 e1 hf6
    generalize s.nx = nx at *
    generalize s.ents.length = len at *
    go_wp2_with fail
    refine cs.mono ?_
    rintro e w6 ⟨rfl, hf6⟩
    have HF6 := Lib.hid hf6
    clear cs hf6
    go_wp2_with fail
    refine bodyPost_ret (results_tmp3 rfl _ _ _) rfl ?_
    rw [HSP.out]
    exact hR.out _ _ ⟨rfl, HF6.out⟩)
end
end Go.Proofs.Ythflghdaejbdkaa
namespace Go.Proofs.Ythflghdaejbdkaa
open Go.RowKit Go.Maps
set_option maxHeartbeats 6400000
set_option maxRecDepth 100000
set_option linter.unusedVariables false
section
variable {l : List Asn} {i j k hb p b : Nat} {m : Mk} {t : Tb} {kk : Nat} {w0 w w' : World}
theorem tstep_rep (w : World) (T3 : Three l i j k) (hf : Fam w0 w (PT l i j k hb p b m t)) (hg : t.Good m) (hm : m.Ok) : Calls Try.prog 33 #[.pointer (some ⟨b, 0, none⟩), .pointer (some ⟨p, 0, none⟩)] w (fun e w' => e = .returned (.tuple #[.int .i64 (t.step m).1, .int .i64 (t.step m).2.1, .int .i64 (t.step m).2.2.1]) ∧ Fam w0 w' (PT l i j k hb p b (t.step m).2.2.2.2 (t.step m).2.2.2.1)) := by
  by_cases hp : t.ph = 0
  · exact tstep_0 w T3 hf hg hm hp
  by_cases h3 : (t.settle m).ph = 3
  · exact tstep_3 w T3 hf hg hm hp h3
  by_cases hl : (t.settle m).ents.length ≤ (t.settle m).nx
  · exact tstep_over w T3 hf hg hm hp h3 hl
  by_cases h2 : (t.settle m).ph = 2
  · cases hw : (t.settle m).fd (t.settle m).nx
    · exact tstep_f0 w T3 hf hg hm hp h3 hl h2 hw
    · exact tstep_f1 w T3 hf hg hm hp h3 hl h2 hw
  · cases hw : m.isW (eAt (t.settle m).ents (t.settle m).nx).tgt
    · exact tstep_w0 w T3 hf hg hm hp h3 hl h2 hw
    · exact tstep_w1 w T3 hf hg hm hp h3 hl h2 hw
theorem tfinish_rep (w : World) (T3 : Three l i j k) (hf : Fam w0 w (PT l i j k hb p b m t)) (hg : t.Good m) (hm : m.Ok) : Calls Try.prog 10 #[.pointer (some ⟨b, 0, none⟩), .pointer (some ⟨p, 0, none⟩)] w (fun e w' => e = .returned (.tuple #[.int .i64 (t.finish m).1, .int .i64 (t.finish m).2.1]) ∧ Fam w0 w' (PT l i j k hb p b (t.finish m).2.2.2 (t.finish m).2.2.1)) := by
  refine calls_abs fun R hR => ?_
  unfold Tb.finish at hR
  by_cases hp : t.ph = 0
  · rw [if_pos hp] at hR
    have c := tstep_rep w T3 hf hg hm
    have hs : t.step m = (0, 0, 13, t, m) := by unfold Tb.step; rw [if_pos hp]
    rw [hs] at c
    clear hf hg hm hp hs
    go_enter Try.func10, Try.ntmps10
    go_wp2_with fail
    go_loopw [6] (fun iv wr => iv = .int .i64 0 ∧ wr = w) (fun _ _ => 0)
    case atStart => exact ⟨rfl, rfl⟩
    case round =>
      obtain ⟨rfl, rfl⟩ := hrel
      go_wp2_with fail
      refine c.mono ?_
      rintro e w2 ⟨rfl, hf⟩
      have HF := Lib.hid hf
      clear c hf
      go_wp2_with fail
      exact hR.out _ _ ⟨rfl, HF.out⟩
  · rw [if_neg hp] at hR
    have HF := Lib.hid hf
    have HS := Lib.hid (Tb.fins_spec hg hm hp)
    have HST : Hid (∀ k, (Tb.steps k (t, m)).1.Good (Tb.steps k (t, m)).2 ∧ (Tb.steps k (t, m)).2.Ok ∧ (Tb.steps k (t, m)).2.M = m.M) := fun k => hg.steps hm k
    have HON : Hid (∀ k, (∀ j, j < k → ¬ Tb.over (Tb.steps j (t, m))) → (Tb.steps k (t, m)).1.ph ≠ 0) := fun k hk => (Tb.steps_on hg hm hp k hk).1
    clear hf hg hm hp
    go_enter Try.func10, Try.ntmps10
    go_wp2_with fail
    go_loopw [6] (fun iv wr => ∃ n : Nat, n ≤ t.fins m ∧ iv = .int .i64 n ∧ Fam w0 wr (PT l i j k hb p b (Tb.steps n (t, m)).2 (Tb.steps n (t, m)).1)) (fun iv _ => t.fins m - (intOf iv).toNat)
    case atStart => exact ⟨0, by omega, rfl, HF.out⟩
    case round =>
      clear HF
      obtain ⟨n, hn, rfl, hf⟩ := hrel
      obtain ⟨h1, h2, h1500⟩ := HS.out
      obtain ⟨hg, hm, _⟩ := HST.out n
      have hph := HON.out n (fun j hj => h2 j (by omega))
      have c := tstep_rep wr T3 hf hg hm
      have hk := (hg.step hm).2.2.2 hph
      by_cases hlt : n < t.fins m
      · have hno := h2 n hlt
        have he : ((Tb.steps n (t, m)).1.step (Tb.steps n (t, m)).2).2.2.1 = 0 := Classical.not_not.1 hno
        have HNX : Hid ((Tb.steps (n + 1) (t, m)) = (((Tb.steps n (t, m)).1.step (Tb.steps n (t, m)).2).2.2.2.1, ((Tb.steps n (t, m)).1.step (Tb.steps n (t, m)).2).2.2.2.2)) := rfl
        rw [he] at c
        clear hf hg hm hph hk hno he h1 h2
        generalize (Tb.steps n (t, m)).1.step (Tb.steps n (t, m)).2 = r at *
        obtain ⟨r1, r2, r3, r4, r5⟩ := r
        generalize t.fins m = fi at *
        go_wp2_with fail
        refine c.mono ?_
        rintro e w2 ⟨rfl, hf⟩
        have HF2 : Hid (Fam w0 w2 (PT l i j k hb p b (Tb.steps (n + 1) (t, m)).2 (Tb.steps (n + 1) (t, m)).1)) := by rw [HNX.out]; exact hf
        clear c hf
        go_wp2_with fail
        exact ⟨⟨n + 1, by omega, by go_num, HF2.out⟩, by simp [intOf]; omega⟩
      · obtain rfl : n = t.fins m := by omega
        have he : ((Tb.steps (t.fins m) (t, m)).1.step (Tb.steps (t.fins m) (t, m)).2).2.2.1 = 3 := by
          rcases hk with hk | hk
          · exact absurd hk.1 h1
          · exact hk.1
        have HNX : Hid ((Tb.steps (t.fins m + 1) (t, m)) = (((Tb.steps (t.fins m) (t, m)).1.step (Tb.steps (t.fins m) (t, m)).2).2.2.2.1, ((Tb.steps (t.fins m) (t, m)).1.step (Tb.steps (t.fins m) (t, m)).2).2.2.2.2)) := rfl
        rw [he] at c
        clear hf hg hm hph hk he h1 h2 hlt
        generalize (Tb.steps (t.fins m) (t, m)).1.step (Tb.steps (t.fins m) (t, m)).2 = r at *
        obtain ⟨r1, r2, r3, r4, r5⟩ := r
        generalize t.fins m = fi at *
        go_wp2_with fail
        refine c.mono ?_
        rintro e w2 ⟨rfl, hf⟩
        have HF2 : Hid (Fam w0 w2 (PT l i j k hb p b (Tb.steps (fi + 1) (t, m)).2 (Tb.steps (fi + 1) (t, m)).1)) := by rw [HNX.out]; exact hf
        clear c hf
        go_wp2_with fail
        exact hR.out _ _ ⟨rfl, HF2.out⟩
end
end Go.Proofs.Ythflghdaejbdkaa
