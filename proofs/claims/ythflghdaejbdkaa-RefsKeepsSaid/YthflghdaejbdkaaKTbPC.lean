/- Lemmas of this claim. -/
import Derived.Test.YthflghdaejbdkaaKTbPB
namespace Go.Proofs.Ythflghdaejbdkaa
open Go.RowKit Go.Maps
set_option maxHeartbeats 3200000
set_option maxRecDepth 100000
set_option linter.unusedVariables false
theorem tnew_any (w : World) : Calls Try.prog 16 #[] w (fun e w' => e = .returned (.pointer (some ⟨w.heap.size, 0, none⟩)) ∧ w' = w.alloc (.cells #[.bool true, .slice none 0 0, .slice none 0 0, .int .i64 0, .int .i64 0, .map none] 79)) := by
  refine calls_abs fun R hR => ?_
  go_enter Try.func16, Try.ntmps16
  go_wp2_with fail
  exact hR.out _ _ ⟨rfl, rfl⟩
theorem tb_born (w : World) : Born w (w.alloc (.cells #[.bool true, .slice none 0 0, .slice none 0 0, .int .i64 0, .int .i64 0, .map none] 79)) (TbA w.heap.size Tb.new 0) :=
  ⟨(Only.refl [] w).alloc _, fun k => k = w.heap.size ∨ (Value.slice none 0 0).ownBlock = some k ∨ (Value.slice none 0 0).ownBlock = some k ∨ (none : Option Nat) = some k, ⟨.slice none 0 0, .slice none 0 0, none, ⟨⟨_, Row.new w _ _⟩, Ents.nil _ _ _, Ints.nil _ _, fun mb e => by (cases e), fun _ h => by omega, fun g hg => by (cases hg), fun g hg => by (cases hg), fun e => by (cases e)⟩, fun k => Iff.rfl⟩, fun k hk => by
    rcases hk with hk | hk | hk | hk
    · omega
    · cases hk
    · cases hk
    · cases hk⟩
theorem append_en1 {w : World} {ops : Array Oper} {rest : List Oper} {o : Oper} {a : Act} {Q : Exit → Act → World → Prop} (hgd : o.guard = none) (s x : Operand)
    (ho : o.op = .call { callee := .builtin .append, args := #[s, x], argTypes := #[77, 77] })
    (v : Value) (l : List En) (hs : a.eval s = v) (hown : Ents w 81 0 v l)
    (bk U : Nat) (y : En) (hx : a.eval x = .slice (some ⟨bk, 0, none⟩) 1 1) (hnews : Row w bk U (enC y)) (hbytes : l.length ≤ 1000000)
    (h : ∀ v' w', Ents w' 81 0 v' (l ++ [y]) → Only v.ownBlock.toList w w' → (v'.ownBlock = v.ownBlock ∨ v'.ownBlock = some w.heap.size) → wpList Try.prog ops Q rest (a.put o.dst v') w') : wpList Try.prog ops Q (o :: rest) a w := by
  obtain ⟨i0, hi, hz0, hz1, hz2⟩ := info_parts infoEn
  refine wpList_append_own2 hgd s x 77 ho 0 81 i0 _ 3 24 Try.underlying77 hi hz0 hz1 hz2 rfl (by decide) v l.length _ hs hown ⟨bk, 0, none⟩ 1 1 (enC y) hx (by simp [enC])
    (fun j u hu => ?_) (fun u hu => ?_) (by simp only [maxLen]; omega) (by omega) (Nat.zero_le _) (fun v' w' h1 h2 h3 h5 => h v' w' ?_ ?_ h5)
  · rw [addr_add]; exact hnews.cell _ (by rw [Nat.zero_add]; exact hu)
  · simp only [enC, List.mem_cons, List.not_mem_nil, or_false] at hu
    rcases hu with rfl | rfl | rfl <;> rfl
  · unfold Ents
    rw [List.length_append, enCells_app]
    have : enCells [y] = enC y := by simp [enCells]
    rw [this]
    exact h1
  · exact (Only.refl _ _).grown h2 (fun k hk => .inl (by rw [hk]; simp))
theorem tadd_nil (w : World) (mv : Value) (kd x g : Int) : Calls Try.prog 8 #[.pointer none, mv, .int .i64 kd, .int .i64 x, .int .i64 g] w (Exact w (.tuple #[.int .i64 0, .int .i64 1])) := by
  refine calls_abs fun R hR => ?_
  go_enter Try.func8, Try.ntmps8
  go_wp2_with fail
  refine (tnone_nil _).mono ?_
  rintro e _ ⟨rfl, rfl⟩
  go_wp2_with fail
  exact hR.out _ _ ⟨rfl, rfl⟩
section
variable {l : List Asn} {i j k hb p b : Nat} {m : Mk} {t : Tb} {kk : Nat} {w0 w : World}
theorem PL.addE (T3 : Three l i j k) {ev qv : Value} {mo : Option Nat} (hf : Fam w0 w (PL l i j k hb p b m t kk)) (ht : TbAt w b ev qv mo t kk) {w2 : World} {v' : Value} {y : En} (he : Ents w2 81 0 v' (t.ents ++ [y])) (ho : Only ev.ownBlock.toList w w2) (hb2 : v'.ownBlock = ev.ownBlock ∨ ∃ g, v'.ownBlock = some g ∧ w.heap.size ≤ g) :
    w2.cell? ⟨b, 1, none⟩ = some ev ∧ w2.frozen? ⟨b, 1, none⟩ = false ∧ Fam w0 (w2.setCell ⟨b, 1, none⟩ v') (PL l i j k hb p b m ⟨t.ents ++ [y], t.q, t.ph, t.nx, t.fd⟩ kk) := by
  have hbl : b < w.heap.size := by obtain ⟨U, hr⟩ := ht.row; exact hr.lt
  have hrow : ∃ U, Row w2 b U [.bool true, ev, qv, .int .i64 (t.ph : Int), .int .i64 (t.nx : Int), .map mo] := ht.row.imp fun U x => ho.row x (fun hm => (ht.n1 b (own_mem hm)).1 rfl)
  have hP : OnlyP (fun x => x = b ∨ ev.ownBlock = some x) w (w2.setCell ⟨b, 1, none⟩ v') := ((ho.toP (S := fun x => x = b ∨ ev.ownBlock = some x) (fun x hx => .inl (.inr (own_mem hx))))).set (.inl (.inl rfl)) _
  have hs : Only [b] w2 (w2.setCell ⟨b, 1, none⟩ v') := (Only.refl _ w2).set (.inl (by simp)) _
  have hnb : ∀ g, v'.ownBlock = some g → g ≠ b ∧ mo ≠ some g ∧ qv.ownBlock ≠ some g := fun g hg => by
    rcases hb2 with h | ⟨g2, h, h2⟩
    · exact ht.n1 g (by rw [← h]; exact hg)
    · rw [h] at hg
      cases hg
      refine ⟨by omega, fun e => ?_, fun e => ?_⟩
      · obtain ⟨n, f, h1, _⟩ := ht.fnd _ e; have := h1.lt; omega
      · have := (ht.q.own _ e).2; omega
  obtain ⟨U, hr⟩ := hrow
  refine ⟨hr.cell 1 rfl, hr.free 1, PL.tbT T3 hf ht v' qv mo _ _ ⟨⟨U, hr.set 1 _⟩, he.only hs (fun x hx => by have := (hnb x hx).1; simpa using this), ht.q.onlyP hP (fun x hx => ?_), fun mb e => ?_, ht.two, hnb, ht.n2, ht.n3⟩ (fun x hx => ?_) (hP.mono (fun x hx => .inl ?_))⟩
  · rintro (h | h)
    · exact (ht.n2 x hx).1 h
    · exact (ht.n1 x h).2.2 hx
  · obtain ⟨n, f, h1, h2⟩ := ht.fnd mb e
    refine ⟨n, f, h1.only hP ?_, h2⟩
    rintro (h | h)
    · exact ht.n3 (by rw [← h]; exact e)
    · exact (ht.n1 mb h).2.1 e
  · rcases hx with hx | hx | hx | hx
    · exact .inl (.inl hx)
    · rcases hb2 with h | ⟨g2, h, h2⟩
      · exact .inl (.inr (.inl (by rw [← h]; exact hx)))
      · rw [h] at hx; cases hx; exact .inr h2
    · exact .inl (.inr (.inr (.inl hx)))
    · exact .inl (.inr (.inr (.inr hx)))
  · rcases hx with hx | hx
    · exact .inl hx
    · exact .inr (.inl hx)
theorem tadd_rep (w : World) (T3 : Three l i j k) (hf : Fam w0 w (PL l i j k hb p b m t kk)) (kd x g : Int) (hx : wfI x) : Calls Try.prog 8 #[.pointer (some ⟨b, 0, none⟩), .pointer (some ⟨p, 0, none⟩), .int .i64 kd, .int .i64 x, .int .i64 g] w (fun e w' => e = .returned (.tuple #[.int .i64 (t.add m kd x g).1, .int .i64 (t.add m kd x g).2.1]) ∧ Fam w0 w' (PL l i j k hb p b m (t.add m kd x g).2.2 kk)) := by
  refine calls_abs fun R hR => ?_
  obtain ⟨ev, qv, mo, ht⟩ := PL.tb T3 hf
  obtain ⟨z0, z1, z2, z3, z4, z5, zf⟩ := ht.cells
  have hn := tnone_rep w z0
  have cc := mcolor_rep w T3.t2 hf x hx
  have HT := Lib.hid ht
  have HF := Lib.hid hf
  unfold Tb.add at hR
  clear z1 z2 z3 z4 z5 zf z0
  by_cases h1 : kd < 1 ∨ 3 < kd
  · rw [if_pos h1] at hR
    clear hf ht cc
    by_cases h2 : kd < 1
    · clear h1
      go_enter Try.func8, Try.ntmps8
      go_wp2_with fail
      refine hn.mono ?_
      rintro e _ ⟨rfl, rfl⟩
      go_wp2_with fail
      exact hR.out _ _ ⟨rfl, HF.out⟩
    · have h3 := h1.resolve_left h2
      clear h1
      go_enter Try.func8, Try.ntmps8
      go_wp2_with fail
      refine hn.mono ?_
      rintro e _ ⟨rfl, rfl⟩
      go_wp2_with fail
      exact hR.out _ _ ⟨rfl, HF.out⟩
  rw [if_neg h1] at hR
  have h2 : ¬ kd < 1 := fun h => h1 (.inl h)
  have h3 : ¬ 3 < kd := fun h => h1 (.inr h)
  clear h1
  have hcol : m.color x = if (m.M.ob x).isSome then (m.col x, 0) else (0, 3) := rfl
  by_cases hp : t.ph = 0
  rotate_left
  · rw [if_pos hp] at hR
    generalize hcv : m.color x = r at *
    obtain ⟨c1, c2⟩ := r
    have hc2 : c2 = 0 ∨ c2 = 3 := by
      split at hcol <;> cases hcol
      · exact .inl rfl
      · exact .inr rfl
    have hc1 : (c2 == 1) = false := by rcases hc2 with h | h <;> rw [h] <;> rfl
    have hp1 : (0 : Int) < (t.ph : Int) := by omega
    have HC : Hid (∀ n, (w.drewN n).cell? ⟨b, 3, none⟩ = some (.int .i64 (t.ph : Int))) := fun n => (HT.out.cells).2.2.2.1
    clear hf ht hcol hcv hc2 hp
    generalize t.ph = ph at *
    go_enter Try.func8, Try.ntmps8
    go_wp2_with fail
    refine hn.mono ?_
    rintro e _ ⟨rfl, rfl⟩
    go_wp2_with fail
    refine cc.mono ?_
    rintro e _ ⟨rfl, n, rfl⟩
    have y3 := HC.out n
    clear cc
    go_wp2_with fail
    exact hR.out _ _ ⟨rfl, HF.out.drewN n⟩
  rw [if_neg (fun h => h hp)] at hR
  cases hs : (m.M.ob x).isSome with
  | false =>
    rw [if_pos hs] at hR
    rw [hcol, hs] at cc
    have HC : Hid (∀ n, (w.drewN n).cell? ⟨b, 3, none⟩ = some (.int .i64 0)) := fun n => by
      have := (HT.out.cells).2.2.2.1
      rw [hp] at this
      exact this
    clear hf ht hcol hp
    go_enter Try.func8, Try.ntmps8
    go_wp2_with fail
    refine hn.mono ?_
    rintro e _ ⟨rfl, rfl⟩
    go_wp2_with fail
    refine cc.mono ?_
    rintro e _ ⟨rfl, n, rfl⟩
    have y3 := HC.out n
    clear cc
    go_wp2_with fail
    exact hR.out _ _ ⟨rfl, HF.out.drewN n⟩
  | true =>
    rw [if_neg (by rw [hs]; simp)] at hR
    rw [hcol, hs] at cc
    obtain ⟨a, c, hev⟩ := HT.out.ents.len
    have HC : Hid (∀ n, (w.drewN n).cell? ⟨b, 3, none⟩ = some (.int .i64 0)) := fun n => by
      have := (HT.out.cells).2.2.2.1
      rw [hp] at this
      exact this
    have HC1 : Hid (∀ n, (w.drewN n).cell? ⟨b, 1, none⟩ = some ev) := fun n => (HT.out.cells).2.1
    clear hcol hp
    by_cases hle : 20 ≤ t.ents.length
    · rw [if_pos hle] at hR
      have hl2 : (20 : Int) ≤ (t.ents.length : Int) := by omega
      subst hev
      clear hf ht hle
      generalize t.ents.length = len at *
      go_enter Try.func8, Try.ntmps8
      go_wp2_with fail
      refine hn.mono ?_
      rintro e _ ⟨rfl, rfl⟩
      go_wp2_with fail
      refine cc.mono ?_
      rintro e _ ⟨rfl, n, rfl⟩
      have y3 := HC.out n
      have y1 := HC1.out n
      clear cc
      go_wp2_with fail
      exact hR.out _ _ ⟨rfl, HF.out.drewN n⟩
    · rw [if_neg hle] at hR
      have hl2 : ¬ (20 : Int) ≤ (t.ents.length : Int) := by omega
      have hlm : t.ents.length ≤ 1000000 := by omega
      have HLM := Lib.hid hlm
      have HE := Lib.hid HT.out.ents
      subst hev
      clear hf ht hle hlm
      obtain ⟨len, hlen⟩ : ∃ n, n = t.ents.length := ⟨_, rfl⟩
      rw [← hlen] at hR hl2 HC1
      have HLEN := Lib.hid hlen
      clear hlen
      go_enter Try.func8, Try.ntmps8
      go_wp2_with fail
      refine hn.mono ?_
      rintro e _ ⟨rfl, rfl⟩
      go_wp2_with fail
      refine cc.mono ?_
      rintro e _ ⟨rfl, n, rfl⟩
      have y3 := HC.out n
      have y1 := HC1.out n
      have HF2 := Lib.hid (HF.out.drewN n)
      have HT2 := Lib.hid (HT.out.only0 ((Only.refl [] w).drewN n))
      clear cc
      generalize w.drewN n = w1 at *
      have HY : Hid (Row (w1.alloc (.cells #[.int .i64 kd, .int .i64 x, .int .i64 g] 81)) w1.heap.size 81 (enC ⟨kd, x, g⟩)) := Row.new w1 _ _
      have HF3 := Lib.hid (HF2.out.alloc (.cells #[.int .i64 kd, .int .i64 x, .int .i64 g] 81))
      have HT3 := Lib.hid (HT2.out.only0 ((Only.refl [] w1).alloc (.cells #[.int .i64 kd, .int .i64 x, .int .i64 g] 81)))
      go_wp2_with (at_builtin; refine append_en1 rfl _ _ rfl _ t.ents (by rw [← HLEN.out]; rfl) HT3.out.ents _ _ ⟨kd, x, g⟩ rfl HY.out (by have := HLM.out; have := HLEN.out; omega) ?_)
      intro v' w2 he ho hb2
      have hb3 : v'.ownBlock = (Value.slice a t.ents.length c).ownBlock ∨ ∃ g2, v'.ownBlock = some g2 ∧ (w1.alloc (.cells #[.int .i64 kd, .int .i64 x, .int .i64 g] 81)).heap.size ≤ g2 := hb2.imp id (fun h => ⟨_, h, by simp⟩)
      have hA := PL.addE T3 HF3.out HT3.out he ho hb3
      obtain ⟨q1, q2, q3⟩ := hA
      rw [← HLEN.out] at q1
      have HQ := Lib.hid q3
      have HL2 : Hid ((t.ents ++ [⟨kd, x, g⟩] : List En).length = len + 1) := by show _ = _; rw [List.length_append, HLEN.out]; rfl
      obtain ⟨a2, c2, hv2⟩ := he.len
      rw [HL2.out] at hv2
      subst hv2
      clear he ho hb2 hb3 q3
      have hnum : (len : Int) + 1 - 1 = len := by omega
      go_wp2_with fail
      exact hR.out _ _ ⟨rfl, HQ.out⟩
end
end Go.Proofs.Ythflghdaejbdkaa
