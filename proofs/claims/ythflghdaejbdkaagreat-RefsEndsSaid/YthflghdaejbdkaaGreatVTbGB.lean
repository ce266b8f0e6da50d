/- Lemmas of this claim. -/
import Derived.Test.YthflghdaejbdkaaGreatVTbG
import Derived.Test.YthflghdaejbdkaaGreatVTbGood
import Derived.Test.YthflghdaejbdkaaGreatVRObjQ
namespace Go.Proofs.YthflghdaejbdkaaGreat
open Go.RowKit Go.Maps
set_option maxHeartbeats 6400000
set_option maxRecDepth 100000
set_option linter.unusedVariables false
theorem rtnew_any (w : World) : Calls Tryz.prog 90 #[] w (fun e w' => e = .returned (.pointer (some ⟨w.heap.size, 0, none⟩)) ∧ w' = w.alloc (.cells #[.slice none 0 0, .slice none 0 0, .int .i64 0, .int .i64 0, .slice none 0 0] 52)) := by
  refine calls_abs fun R hR => ?_
  go_enter Tryz.func90, Tryz.ntmps90
  go_wp2_with fail
  exact hR.out _ _ ⟨rfl, rfl⟩
theorem tr_born (w : World) : Born w (w.alloc (.cells #[.slice none 0 0, .slice none 0 0, .int .i64 0, .int .i64 0, .slice none 0 0] 52)) (TrA w.heap.size Tb.new) :=
  ⟨(Only.refl [] w).alloc _, fun k => k = w.heap.size ∨ (Value.slice none 0 0).ownBlock = some k ∨ (Value.slice none 0 0).ownBlock = some k ∨ (Value.slice none 0 0).ownBlock = some k, ⟨.slice none 0 0, .slice none 0 0, .slice none 0 0, 0, [], ⟨⟨_, Row.new w _ _⟩, Ents.nil _ _ _, Ints.nil _ _, Bls.nil _ _, NowIs.self _, ⟨Nat.zero_le _, fun h => by simp [Tb.new] at h⟩, fun g hg => by (cases hg), fun g hg => by (cases hg), fun e => by (cases e)⟩, fun k => Iff.rfl⟩, fun k hk => by
    rcases hk with hk | hk | hk | hk
    · omega
    · cases hk
    · cases hk
    · cases hk⟩
theorem infoRe : (Tryz.prog.info? 48).map (fun i => (i.zero, i.size, i.bytes)) = some (some (.agg #[.int .i64 0, .int .i64 0, .int .i64 0]), 3, 24) := by kernel_rfl
theorem append_re1 {w : World} {ops : Array Oper} {rest : List Oper} {o : Oper} {a : Act} {Q : Exit → Act → World → Prop} (hgd : o.guard = none) (s x : Operand)
    (ho : o.op = .call { callee := .builtin .append, args := #[s, x], argTypes := #[49, 49] })
    (v : Value) (l : List En) (hs : a.eval s = v) (hown : Ents w 48 0 v l)
    (bk U : Nat) (y : En) (hx : a.eval x = .slice (some ⟨bk, 0, none⟩) 1 1) (hnews : Row w bk U (enC y)) (hbytes : l.length ≤ 1000000)
    (h : ∀ v' w', Ents w' 48 0 v' (l ++ [y]) → Only v.ownBlock.toList w w' → (v'.ownBlock = v.ownBlock ∨ v'.ownBlock = some w.heap.size) → wpList Tryz.prog ops Q rest (a.put o.dst v') w') : wpList Tryz.prog ops Q (o :: rest) a w := by
  obtain ⟨i0, hi, hz0, hz1, hz2⟩ := info_parts infoRe
  refine wpList_append_own2 hgd s x 49 ho 0 48 i0 _ 3 24 Tryz.underlying49 hi hz0 hz1 hz2 rfl (by decide) v l.length _ hs hown ⟨bk, 0, none⟩ 1 1 (enC y) hx (by simp [enC])
    (fun j u hu => ?_) (fun u hu => ?_) (by simp only [maxLen]; omega) (by omega) (Nat.zero_le _) (fun v' w' h1 h2 h3 h5 => h v' w' ?_ ?_ h5)
  · rw [addr_add]; exact hnews.cell _ (by rw [Nat.zero_add]; exact hu)
  · simp only [enC, List.mem_cons, List.not_mem_nil, or_false] at hu
    rcases hu with rfl | rfl | rfl <;> rfl
  · unfold Ents
    rw [List.length_append, enCells_app]
    have : enCells [y] = enC y := by simp [enCells]
    rw [this]
    exact h1
  · exact (Only.refl _ _).grown h2 (fun k hk => .inl (by rw [hk]; simp))
section
variable {l : List Asn} {i j k q r b : Nat} {m : Mk} {t : Tb} {w0 w w' : World} {ev qv wv : Value} {nx : Nat} {wl : List Bool}
theorem QL.setQ (h : Three l i j k) (hf : Fam w0 w (QL l i j k q r b m t)) (ht : TrAt w b ev qv wv nx wl t) {w2 : World} {v' : Value} {q' : List Int} (he : Ints w2 w.heap.size v' q') (ho : Only [] w w2) :
    w2.cell? ⟨b, 1, none⟩ = some qv ∧ w2.frozen? ⟨b, 1, none⟩ = false ∧ TrAt (w2.setCell ⟨b, 1, none⟩ v') b ev v' wv nx wl ⟨t.ents, q', t.ph, t.nx, t.fd⟩ ∧ Fam w0 (w2.setCell ⟨b, 1, none⟩ v') (QL l i j k q r b m ⟨t.ents, q', t.ph, t.nx, t.fd⟩) := by
  have hbl : b < w.heap.size := by obtain ⟨U, hr⟩ := ht.row; exact hr.lt
  have ht2 := ht.only0 ho
  have hs : Only [b] w2 (w2.setCell ⟨b, 1, none⟩ v') := (Only.refl _ w2).set (.inl (by simp)) _
  obtain ⟨h1, h2, h3⟩ := ht2.rest hs
  have hnb : ∀ g, v'.ownBlock = some g → w.heap.size ≤ g := fun g hg => (he.own g hg).1
  have hT : TrAt (w2.setCell ⟨b, 1, none⟩ v') b ev v' wv nx wl ⟨t.ents, q', t.ph, t.nx, t.fd⟩ :=
    ⟨ht2.row.imp fun U x => x.set 1 _, h1, (he.base (Nat.zero_le _)).only hs (fun g hg => by have := hnb g hg; simp; omega), h3, ht.now, ht.two, fun g hg => ⟨(ht.n1 g hg).1, (ht.n1 g hg).2.1, fun e => by have := hnb g e; have := (ht.ents.own g hg).2; omega⟩, fun g hg => ⟨by have := hnb g hg; omega, fun e => by have := hnb g hg; have := (ht.wh.own g e).2; omega⟩, ht.n3⟩
  refine ⟨ht2.cells.2.1, ht2.cells.2.2.2.2.2 1, hT, QL.trT h hf ht ev v' wv nx wl _ hT (fun x hx => ?_) ((ho.mono (G := [b]) (by simp)).trans hs (by simp) |>.toP (fun x hx => .inl (.inl (by simpa using hx))))⟩
  rcases hx with hx | hx | hx | hx
  · exact .inl (.inl hx)
  · exact .inl (.inr (.inl hx))
  · exact .inr (hnb x hx)
  · exact .inl (.inr (.inr (.inr hx)))
theorem rttake_rep (w : World) (T3 : Three l i j k) (hf : Fam w0 w (QL l i j k q r b m t)) (hl : t.q.length ≤ 1000000) : Calls Tryz.prog 147 #[.pointer (some ⟨b, 0, none⟩)] w (fun e w' => e = .returned (.tuple #[.int .i64 t.take.1, .int .i64 t.take.2.1]) ∧ Fam w0 w' (QL l i j k q r b m t.take.2.2)) := by
  refine calls_abs fun R hR => ?_
  obtain ⟨ev, qv, wv, nx, wl, ht⟩ := QL.tr T3 hf
  have HT := Lib.hid ht
  have HF := Lib.hid hf
  unfold Tb.take at hR
  cases e : t.q with
  | nil =>
    obtain ⟨z0, z1, z2, z3, z4, zf⟩ := ht.cells
    rw [e] at hR
    have hi := ht.q
    rw [e] at hi
    obtain ⟨a, c, rfl⟩ := hi.len
    clear ht hi hf
    replace z1 : w.cell? ⟨b, 1, none⟩ = some (.slice a 0 c) := z1
    go_enter Tryz.func147, Tryz.ntmps147
    go_wp2_with fail
    exact hR.out _ _ ⟨rfl, HF.out⟩
  | cons x rs =>
    rw [e] at hR hl
    have hi := ht.q
    rw [e] at hi
    obtain ⟨z0, z1, z2, z3, z4, zf⟩ := ht.cells
    rcases hi.form with ⟨_, h0⟩ | ⟨g, cap, rfl, _, hgl, hlc, hc⟩
    · cases h0
    have hc0 : w.cell? ⟨g, 0, none⟩ = some (.int .i64 x) := hc 0 (by simp)
    have HRD : Hid (∀ k, k < rs.length → w.cell? ⟨g, 1 + k, none⟩ = some (.int .i64 (gI rs k))) := fun k hk => by
      have h4 := hc (k + 1) (by simp; omega)
      rw [Nat.add_comm 1 k, h4]; simp [gI]
    obtain ⟨n, hn⟩ : ∃ z, z = rs.length := ⟨_, rfl⟩
    have HN := Lib.hid hn
    have hl2 : n ≤ 1000000 := by rw [hn]; simp at hl; omega
    replace hlc : n + 1 ≤ cap := by rw [hn]; simpa using hlc
    replace z1 : w.cell? ⟨b, 1, none⟩ = some (.slice (some ⟨g, 0, none⟩) (n + 1) cap) := by rw [hn]; exact z1
    have z1a : (w.alloc (.cells #[] 3)).cell? ⟨b, 1, none⟩ = some (.slice (some ⟨g, 0, none⟩) (n + 1) cap) := by rw [World.cell?_alloc_past _ _ _ (World.block_lt_of_cell? w _ z1)]; exact z1
    have hn1 : ((n : Int) + 1 == 0) = false := by rw [beq_eq_false_iff_ne]; omega
    have hn2 : (0 : Int) < (n : Int) + 1 := by omega
    clear ht hi hf hn hl hc z0 z2 z3 z4 zf
    by_cases hc1 : cap = 1
    · subst hc1
      obtain rfl : n = 0 := by omega
      have hrs : rs = [] := List.eq_nil_of_length_eq_zero HN.out.symm
      subst hrs
      replace z1 : w.cell? ⟨b, 1, none⟩ = some (.slice (some ⟨g, 0, none⟩) 1 1) := z1
      replace z1a : (w.alloc (.cells #[] 3)).cell? ⟨b, 1, none⟩ = some (.slice (some ⟨g, 0, none⟩) 1 1) := z1a
      clear hn1 hn2
      go_enter Tryz.func147, Tryz.ntmps147
      go_wp2_with (at_builtin; refine wpList_icpy rfl _ _ rfl w ((Only.refl _ _).alloc _) _ rfl (Ints.made _) _ 0 _ [] rfl rfl (.inr ⟨_, _, rfl, rfl⟩) (by omega) ?c1)
      case c1 =>
        intro g2 cap2 w1 hi ho
        obtain ⟨y1, yf, _, hf2⟩ := QL.setQ T3 HF.out HT.out hi.out ho.out
        have HF2 := Lib.hid hf2
        clear hi ho hf2
        go_wp2_with fail
        exact hR.out _ _ ⟨rfl, HF2.out⟩
    · have hc2 : (cap = 1) = False := eq_false hc1
      have hl3 : (1 : Int) ≤ ((n + 1 : Nat) : Int) := by omega
      have hl4 : ((n + 1 : Nat) : Int) ≤ cap := by omega
      go_enter Tryz.func147, Tryz.ntmps147
      go_wp2_with (at_builtin; refine wpList_icpy rfl _ _ rfl w ((Only.refl _ _).alloc _) _ rfl (Ints.made _) (some ⟨g, 1, none⟩) n _ rs rfl HN.out.symm (.inl ⟨g, 1, _, by rw [HN.out], HRD.out⟩) hl2 ?c1)
      case c1 =>
        intro g2 cap2 w1 hi ho
        obtain ⟨y1, yf, _, hf2⟩ := QL.setQ T3 HF.out HT.out hi.out ho.out
        have HF2 := Lib.hid hf2
        clear hi ho hf2
        go_wp2_with fail
        exact hR.out _ _ ⟨rfl, HF2.out⟩
theorem rtleft_rep (w : World) (h : TrAt w b ev qv wv nx wl t) (hle : t.ents.length ≤ 20) (kd n : Nat) : Calls Tryz.prog 152 #[.pointer (some ⟨b, 0, none⟩), .int .i64 (kd : Int), .int .i64 (n : Int)] w (Exact w (.tuple #[.int .i64 (if nxt t.ents kd n < t.ents.length then (nxt t.ents kd n : Int) else 0), .bool (decide (nxt t.ents kd n < t.ents.length))])) := by
  refine calls_abs fun R hR => ?_
  obtain ⟨z0, _⟩ := h.cells
  have HE := Lib.hid h.ents
  obtain ⟨a, c, rfl⟩ := h.ents.len
  clear h
  go_enter Tryz.func152, Tryz.ntmps152
  go_wp2_with fail
  go_loopw [8] (fun iv wr => ∃ x : Nat, n ≤ x ∧ iv = .int .i64 x ∧ nxt t.ents kd x = nxt t.ents kd n ∧ wr = w) (fun iv _ => t.ents.length - (intOf iv).toNat)
  case atStart => exact ⟨n, Nat.le_refl _, rfl, rfl, rfl⟩
  case round =>
    obtain ⟨x, hx, rfl, hnx, rfl⟩ := hrel
    have HNX := Lib.hid hnx
    clear hnx
    by_cases hlt : x < t.ents.length
    · obtain ⟨g, cap, hv, _, _, c0, _, _, _⟩ := HE.out.at hlt
      simp only [Value.slice.injEq, true_and] at hv
      obtain ⟨rfl, rfl⟩ := hv
      have hlt1 : (x : Int) < (t.ents.length : Int) := by omega
      have hx0 : (0 : Int) ≤ x := by omega
      by_cases hk : (eAt t.ents x).kind = (kd : Int)
      · have hk1 : ((eAt t.ents x).kind == (kd : Int)) = true := by rw [hk]; simp
        have hh : nxt t.ents kd n = x := HNX.out.symm.trans (nxt_here hlt hk)
        rw [hh, if_pos hlt, decide_eq_true hlt] at hR
        rw [hk] at c0
        clear hk hk1 hh
        generalize t.ents.length = len at *
        go_wp2_with fail
        exact hR.out _ _ ⟨rfl, rfl⟩
      · have hk1 : ((eAt t.ents x).kind == (kd : Int)) = false := by rw [beq_eq_false_iff_ne]; exact hk
        have HN2 : Hid (nxt t.ents kd (x + 1) = nxt t.ents kd n) := (nxt_pass hk).symm.trans HNX.out
        have h20 : x < 20 := by omega
        clear hk
        generalize (eAt t.ents x).kind = kx at *
        generalize hlen : t.ents.length = len at *
        go_wp2_with fail
        exact ⟨⟨x + 1, by omega, by go_num, HN2.out, by first | rfl | trivial⟩, by simp [intOf]; omega⟩
    · have hlt1 : ¬ (x : Int) < (t.ents.length : Int) := by omega
      have hh : nxt t.ents kd n = t.ents.length := HNX.out.symm.trans (nxt_end (by omega))
      rw [hh, if_neg (Nat.lt_irrefl _), decide_eq_false (Nat.lt_irrefl _)] at hR
      clear hh
      generalize t.ents.length = len at *
      go_wp2_with fail
      exact hR.out _ _ ⟨rfl, rfl⟩
theorem QL.addE (T3 : Three l i j k) (hf : Fam w0 w (QL l i j k q r b m t)) (ht : TrAt w b ev qv wv nx wl t) (hp : t.ph = 0) {w2 : World} {v' : Value} {y : En} (he : Ents w2 48 0 v' (t.ents ++ [y])) (ho : Only ev.ownBlock.toList w w2) (hb2 : v'.ownBlock = ev.ownBlock ∨ ∃ g, v'.ownBlock = some g ∧ w.heap.size ≤ g) :
    w2.cell? ⟨b, 0, none⟩ = some ev ∧ w2.frozen? ⟨b, 0, none⟩ = false ∧ Fam w0 (w2.setCell ⟨b, 0, none⟩ v') (QL l i j k q r b m ⟨t.ents ++ [y], t.q, t.ph, t.nx, t.fd⟩) := by
  have hbl : b < w.heap.size := by obtain ⟨U, hr⟩ := ht.row; exact hr.lt
  have hrow : ∃ U, Row w2 b U [ev, qv, .int .i64 (t.ph : Int), .int .i64 (nx : Int), wv] := ht.row.imp fun U x => ho.row x (fun hm => (ht.n1 b (own_mem hm)).1 rfl)
  have hP : OnlyP (fun x => x = b ∨ ev.ownBlock = some x) w (w2.setCell ⟨b, 0, none⟩ v') := ((ho.toP (S := fun x => x = b ∨ ev.ownBlock = some x) (fun x hx => .inl (.inr (own_mem hx))))).set (.inl (.inl rfl)) _
  have hs : Only [b] w2 (w2.setCell ⟨b, 0, none⟩ v') := (Only.refl _ w2).set (.inl (by simp)) _
  have hnb : ∀ g, v'.ownBlock = some g → g ≠ b ∧ wv.ownBlock ≠ some g ∧ qv.ownBlock ≠ some g := fun g hg => by
    rcases hb2 with h | ⟨g2, h, h2⟩
    · exact ht.n1 g (by rw [← h]; exact hg)
    · rw [h] at hg
      cases hg
      refine ⟨by omega, fun e => ?_, fun e => ?_⟩
      · have := (ht.wh.own _ e).2; omega
      · have := (ht.q.own _ e).2; omega
  obtain ⟨U, hr⟩ := hrow
  refine ⟨hr.cell 0 rfl, hr.free 0, QL.trT T3 hf ht v' qv wv nx wl _ ⟨⟨U, hr.set 0 _⟩, he.only hs (fun x hx => by have := (hnb x hx).1; simpa using this), ht.q.onlyP hP (fun x hx => ?_), ht.wh.onlyP hP (fun x hx => ?_), ⟨fun e => absurd (show t.ph = 1 from e) (by omega), fun e => absurd (show t.ph = 2 from e) (by omega), fun e => absurd (show t.ph = 4 from e) (by omega)⟩, ⟨ht.two.1, fun e => absurd (show t.ph = 2 from e) (by omega)⟩, hnb, ht.n2, ht.n3⟩ (fun x hx => ?_) (hP.mono (fun x hx => .inl ?_))⟩
  · rintro (h | h)
    · exact (ht.n2 x hx).1 h
    · exact (ht.n1 x h).2.2 hx
  · rintro (h | h)
    · exact ht.n3 (by rw [← h]; exact hx)
    · exact (ht.n1 x h).2.1 hx
  · rcases hx with hx | hx | hx | hx
    · exact .inl (.inl hx)
    · rcases hb2 with h | ⟨g2, h, h2⟩
      · exact .inl (.inr (.inl (by rw [← h]; exact hx)))
      · rw [h] at hx; cases hx; exact .inr h2
    · exact .inl (.inr (.inr (.inl hx)))
    · exact .inl (.inr (.inr (.inr hx)))
  · rcases hx with hx | hx
    · exact .inl hx
    · exact .inr (.inl hx)
theorem rtadd_rep (w : World) (T3 : Three l i j k) (hf : Fam w0 w (QL l i j k q r b m t)) (kd x g : Int) : Calls Tryz.prog 146 #[.pointer (some ⟨b, 0, none⟩), .pointer (some ⟨r, 0, none⟩), .int .i64 kd, .int .i64 x, .int .i64 g] w (fun e w' => e = .returned (.tuple #[.int .i64 (t.add m kd x g).1, .int .i64 (t.add m kd x g).2.1]) ∧ Fam w0 w' (QL l i j k q r b m (t.add m kd x g).2.2)) := by
  refine calls_abs fun R hR => ?_
  obtain ⟨ev, qv, wv, nx, wl, ht⟩ := QL.tr T3 hf
  obtain ⟨z0, z1, z2, z3, z4, zf⟩ := ht.cells
  have cc := gcolor_rep w T3.t2 hf x
  have HT := Lib.hid ht
  have HF := Lib.hid hf
  unfold Tb.add at hR
  clear z1 z3 z4 zf
  by_cases h1 : kd < 1 ∨ 3 < kd
  · rw [if_pos h1] at hR
    clear hf ht cc
    by_cases h2 : kd < 1
    · clear h1
      go_enter Tryz.func146, Tryz.ntmps146
      go_wp2_with fail
      exact hR.out _ _ ⟨rfl, HF.out⟩
    · have h3 := h1.resolve_left h2
      clear h1
      go_enter Tryz.func146, Tryz.ntmps146
      go_wp2_with fail
      exact hR.out _ _ ⟨rfl, HF.out⟩
  rw [if_neg h1] at hR
  have h2 : ¬ kd < 1 := fun h => h1 (.inl h)
  have h3 : ¬ 3 < kd := fun h => h1 (.inr h)
  clear h1
  have hcol : m.color x = if (m.M.ob x).isSome then (m.col x, 0) else (0, 3) := rfl
  by_cases hp : t.ph = 0
  rotate_left
  · rw [if_pos hp] at hR
    have hp1 : ((t.ph : Int) != 0) = true := by simp; omega
    clear hf ht hcol cc hp
    generalize t.ph = ph at *
    go_enter Tryz.func146, Tryz.ntmps146
    go_wp2_with fail
    exact hR.out _ _ ⟨rfl, HF.out⟩
  rw [if_neg (fun h => h hp)] at hR
  have HP := Lib.hid hp
  rw [hp] at z2
  replace z2 : w.cell? ⟨b, 2, none⟩ = some (.int .i64 0) := z2
  cases hs : (m.M.ob x).isSome with
  | false =>
    rw [if_pos hs] at hR
    rw [hcol, hs] at cc
    clear hf ht hcol hp
    go_enter Tryz.func146, Tryz.ntmps146
    go_wp2_with fail
    refine cc.mono ?_
    rintro e w1 ⟨rfl, ho⟩
    have HF1 := Lib.hid (HF.out.only0 ho)
    clear cc ho
    go_wp2_with fail
    exact hR.out _ _ ⟨rfl, HF1.out⟩
  | true =>
    rw [if_neg (by rw [hs]; simp)] at hR
    rw [hcol, hs] at cc
    obtain ⟨a, c, hev⟩ := HT.out.ents.len
    clear hcol hp hf ht
    by_cases hle : 20 ≤ t.ents.length
    · rw [if_pos hle] at hR
      have hl2 : (20 : Int) ≤ (t.ents.length : Int) := by omega
      subst hev
      clear hle
      generalize t.ents.length = len at *
      go_enter Tryz.func146, Tryz.ntmps146
      go_wp2_with fail
      refine cc.mono ?_
      rintro e w1 ⟨rfl, ho⟩
      have HF1 := Lib.hid (HF.out.only0 ho)
      have y0 := ho.cell z0 (by simp)
      clear cc ho
      go_wp2_with fail
      exact hR.out _ _ ⟨rfl, HF1.out⟩
    · rw [if_neg hle] at hR
      have hl2 : ¬ (20 : Int) ≤ (t.ents.length : Int) := by omega
      have HLM : Hid (t.ents.length ≤ 1000000) := by show _ ≤ _; omega
      subst hev
      obtain ⟨len, hlen⟩ : ∃ n, n = t.ents.length := ⟨_, rfl⟩
      rw [← hlen] at hR hl2 z0
      have HLEN := Lib.hid hlen
      clear hlen hle
      go_enter Tryz.func146, Tryz.ntmps146
      go_wp2_with fail
      refine cc.mono ?_
      rintro e w1 ⟨rfl, ho⟩
      have y0 := ho.cell z0 (by simp)
      have HF2 := Lib.hid (HF.out.only0 ho)
      have HT2 := Lib.hid (HT.out.only0 ho)
      clear cc ho
      have HY : Hid (Row (w1.alloc (.cells #[.int .i64 kd, .int .i64 x, .int .i64 g] 48)) w1.heap.size 48 (enC ⟨kd, x, g⟩)) := Row.new w1 _ _
      have HF3 := Lib.hid (HF2.out.alloc (.cells #[.int .i64 kd, .int .i64 x, .int .i64 g] 48))
      have HT3 := Lib.hid (HT2.out.only0 ((Only.refl [] w1).alloc (.cells #[.int .i64 kd, .int .i64 x, .int .i64 g] 48)))
      go_wp2_with (at_builtin; refine append_re1 rfl _ _ rfl _ t.ents (by rw [← HLEN.out]; rfl) HT3.out.ents _ _ ⟨kd, x, g⟩ rfl HY.out (by have := HLM.out; have := HLEN.out; omega) ?_)
      intro v' w2 he ho hb2
      have hb3 : v'.ownBlock = (Value.slice a t.ents.length c).ownBlock ∨ ∃ g2, v'.ownBlock = some g2 ∧ (w1.alloc (.cells #[.int .i64 kd, .int .i64 x, .int .i64 g] 48)).heap.size ≤ g2 := hb2.imp id (fun h => ⟨_, h, by simp⟩)
      have hA := QL.addE T3 HF3.out HT3.out HP.out he ho hb3
      obtain ⟨q1, q2, q3⟩ := hA
      rw [← HLEN.out] at q1
      have HQ := Lib.hid q3
      have HL2 : Hid ((t.ents ++ [⟨kd, x, g⟩] : List En).length = len + 1) := by show _ = _; rw [List.length_append, HLEN.out]; rfl
      obtain ⟨a2, c2, hv2⟩ := he.len
      rw [HL2.out] at hv2
      subst hv2
      clear he ho hb2 hb3 q3
      have hnum : (len : Int) + 1 - 1 = len := by omega
      go_wp2_with fail
      exact hR.out _ _ ⟨rfl, HQ.out⟩
end
end Go.Proofs.YthflghdaejbdkaaGreat
