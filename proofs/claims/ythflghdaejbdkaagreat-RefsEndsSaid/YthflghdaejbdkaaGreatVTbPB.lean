/- Lemmas of this claim. -/
import Derived.Test.YthflghdaejbdkaaGreatVTbP
import Derived.StillTailTactics
namespace Go.Proofs.YthflghdaejbdkaaGreat
open Go.RowKit Go.Maps
set_option maxHeartbeats 3200000
set_option maxRecDepth 100000
set_option linter.unusedVariables false
theorem wpList_append_fits {P : Program} {w : World} {ops : Array Oper} {rest : List Oper} {o : Oper} {a : Act} {Q : Exit → Act → World → Prop} (hgd : o.guard = none) (s x : Operand) (t : TypeId)
    (ho : o.op = .call { callee := .builtin .append, args := #[s, x], argTypes := #[t, t] })
    (e : TypeId) (i : TypeInfo) (ht : P.underlying t = some (.slice e)) (hi : P.info? e = some i) (hsz : i.size = 1)
    (g n cap : Nat) (cur : Array Value) (hg : w.heap[g]? = some (.cells cur e (0, 0))) (hs : a.eval s = .slice (some ⟨g, 0, none⟩) n cap)
    (ad : Addr) (m c : Nat) (news : List Value) (hx : a.eval x = .slice (some ad) m c) (hl : news.length = m) (hnews : ∀ j u, news[j]? = some u → w.cell? (ad.add j) = some u) (h1 : ∀ u ∈ news, u.oneCell' = true)
    (hroom : n + m ≤ cap) (hfit : n + m ≤ cur.size)
    (h : wpList P ops Q rest (a.put o.dst (.slice (some ⟨g, 0, none⟩) (n + m) cap)) (w.setRow g (cur.toList.take n ++ news ++ cur.toList.drop (n + m)).toArray)) : wpList P ops Q (o :: rest) a w := by
  refine wpList_plain hgd fun K hK => ?_
  have hr := run_append_room (P := P) w t o.type e i ht hi g n cap cur hg ad m c news (by rw [hl, hsz, Nat.mul_one]) hnews h1 hroom (by rw [hl, hsz, Nat.mul_one]; exact hfit)
  rw [hsz, Nat.mul_one, hl] at hr
  unfold Oper.wp
  simp only [execOp, ho, resolve, invoke, builtin, Sem.run_bind, Sem.run_pure, Result.andThen_ok, List.map_toArray, List.map_cons, List.map_nil, hs, hx, hr]
  exact hK _ _ h
theorem del1_any (w : World) (base : Nat) (v : Value) (x : Int) (l : List Int) (hI : Ints w base v (x :: l)) (hl : l.length ≤ 1000000) :
    Calls Tryz.prog 197 #[v, .int .i64 0, .int .i64 1] w fun e w' => ∃ v', e = .returned v' ∧ Ints w' base v' l ∧ v'.ownBlock = v.ownBlock ∧ Only v.ownBlock.toList w w' := by
  refine calls_abs fun R hR => ?_
  rcases hI.form with ⟨_, h0⟩ | ⟨g, cap, rfl, hbg, hgl, hlc, hc⟩
  · simp at h0
  obtain ⟨_, _, cs, hrow, hcl, htk, hlc, hcm⟩ := hI.row
  have hcm' : cap ≤ 9223372036854775807 := hcm
  obtain ⟨n, hn⟩ : ∃ n, n = l.length := ⟨_, rfl⟩
  have hlen : (x :: l).length = n + 1 := by simp [hn]
  rw [hlen] at hlc htk hR ⊢
  have HROW := Lib.hid hrow
  have HTK := Lib.hid htk
  have HN := Lib.hid hn
  have HCL := Lib.hid hcl
  clear hI hrow htk hn hcl hc hlen
  have b1 : (0 : Int) ≤ (n : Int) + 1 := by omega
  have b2 : (1 : Int) ≤ (n : Int) + 1 := by omega
  have b3 : (n : Int) + 1 ≤ cap := by omega
  go_enter Tryz.func197, Tryz.ntmps197
  go_wp2_with fail
  go_still_tail 6, (by kernel_rfl)
  change wpList _ _ _ _ _ w.drew
  have hif : (if cap = 1 then (some ⟨g, 0, none⟩ : Option Addr) else some ⟨g, 1, none⟩) = some ⟨g, if cap = 1 then 0 else 1, none⟩ := by split <;> rfl
  rw [hif]
  obtain ⟨i0, hi, hz0, hz1, hz2⟩ := info_parts infoInt
  have hheap : w.drew.heap[g]? = some (.cells cs.toArray 3 (0, 0)) := HROW.out
  refine wpList_append_fits rfl _ _ 23 rfl 3 i0 Tryz.underlying23 hi hz1 g 0 cap cs.toArray hheap rfl ⟨g, if cap = 1 then 0 else 1, none⟩ n (cap - 1) (l.map (.int .i64)) rfl (by simp [HN.out]) (fun j u hu => ?_) (fun u hu => ?_) (by omega) (by simp [HCL.out]; omega) ?_
  · have hj : j < l.length := by
      have := (List.getElem?_eq_some_iff.1 hu).1
      simpa using this
    have hc1 : cap ≠ 1 := by have := HN.out; omega
    rw [if_neg hc1, addr_add]
    refine (HROW.out.drew).cell (1 + j) ?_
    have h2 : (cs.take (n + 1))[1 + j]? = cs[1 + j]? := by rw [List.getElem?_take_of_lt (by have := HN.out; omega)]
    rw [← h2, HTK.out, Nat.add_comm 1 j]
    exact hu
  · simp only [List.mem_map] at hu
    obtain ⟨y, _, rfl⟩ := hu
    rfl
  have hcs0 : cs.toArray.toList.take 0 ++ l.map (.int .i64) ++ cs.toArray.toList.drop (0 + n) = l.map (.int .i64) ++ cs.drop n := by simp
  rw [hcs0]
  have R2 : Hid (Row (w.drew.setRow g (l.map (Value.int .i64) ++ cs.drop n).toArray) g 3 (l.map (Value.int .i64) ++ cs.drop n)) := setRow_heap _ g cs.toArray _ _ (0, 0) hheap
  have HLN : Hid ((l.map (Value.int .i64) ++ cs.drop n).length = cap) := by show _ = _; have := HN.out; have := HCL.out; simp; omega
  have O2 : Hid (Only [g] w (w.drew.setRow g (l.map (Value.int .i64) ++ cs.drop n).toArray)) := ⟨rfl, rfl, rfl, by show _ ≤ (w.heap.modify g _).size; rw [Array.size_modify]; exact Nat.le_refl _, fun k hk hn => setRow_other _ g k _ (by simpa using hn)⟩
  have HTL : Hid (∀ m, m < n → (l.map (Value.int .i64) ++ cs.drop n)[m]? = some (.int .i64 (gI l m))) := fun m hm => by
    have := HN.out
    rw [List.getElem?_append_left (by simp; omega), List.getElem?_map]
    unfold gI
    rw [List.getElem?_eq_getElem (by omega)]; rfl
  generalize w.drew.setRow g (l.map (Value.int .i64) ++ cs.drop n).toArray = w2 at *
  generalize l.map (Value.int .i64) ++ cs.drop n = cs2 at *
  generalize (if cap = 1 then 0 else 1 : Nat) = off1 at *
  clear hheap hcs0
  have b4 : (0 : Int) ≤ (n : Int) := by omega
  have b5 : (n : Int) ≤ (n : Int) + 1 := by omega
  have hnn : 0 + n = n := by omega
  rw [hnn]
  have HCC : Hid (∀ m, m < 1 → (w2.cell? ⟨g, n + m, none⟩).isSome = true) := fun m hm => by
    rw [R2.out.cell (n + m) (List.getElem?_eq_getElem (by rw [HLN.out]; omega))]; rfl
  have HFF : Hid (∀ m, m < 1 → w2.frozen? ⟨g, n + m, none⟩ = false) := fun m hm => R2.out.free _
  go_wp2_with (with_reducible refine wpList_clear rfl (.tmp 31) 23 3 rfl (.int .i64 0) Tryz.underlying23 zeroInt rfl rfl g n 1 (cap - n) rfl (by omega) HCC.out HFF.out ?_)
  obtain ⟨cs', q1, q2, q3⟩ := R2.out.setCells' [Value.int .i64 0] n
  have Q1 := Lib.hid q1
  have Q2 := Lib.hid q2
  have Q3 := Lib.hid q3
  have QO : Hid (Only [g] w (w2.setCells g n [Value.int .i64 0])) := O2.out.setCells (.inl (by simp)) _ _
  clear q1 q2 q3
  generalize w2.setCells g n [Value.int .i64 0] = w3 at *
  go_wp2_with fail
  have hn := HN.out
  refine hR.out _ _ ⟨_, rfl, ?_, rfl, by simpa [Value.ownBlock] using QO.out⟩
  rw [hn]
  exact Ints.ofRow hbg Q1.out (by rw [Q2.out]; exact HLN.out) (take_map_iff (by rw [Q2.out, HLN.out]; omega) (fun m hm => by rw [Q3.out m (by omega)]; exact HTL.out m (by omega))) (by omega) hcm
section
variable {l : List Asn} {i j k hb p b : Nat} {m : Mk} {t : Tb} {kk : Nat} {w0 w : World}
theorem ttarget_nil (w : World) (n : Int) : Calls Tryz.prog 24 #[.pointer none, .int .i64 n] w (fun e w' => e = .returned (.tuple #[.int .i64 0, .int .i64 1]) ∧ Only [] w w') := by
  refine calls_abs fun R hR => ?_
  go_enter Tryz.func24, Tryz.ntmps24
  go_wp2_with fail
  refine (tat_nil _ _).mono ?_
  rintro e w1 ⟨rfl, ho⟩
  have HO := Lib.hid (ho.alloc (.cells #[.int .i64 0, .int .i64 0, .int .i64 0] 123))
  have y0 := (Row.new w1 123 [.int .i64 0, .int .i64 0, .int .i64 0]).cell 1 rfl
  clear ho
  go_wp2_with fail
  exact hR.out _ _ ⟨rfl, HO.out⟩
theorem ttarget_rep (w : World) {ev qv : Value} {mo : Option Nat} (h : TbAt w b ev qv mo t kk) (n : Int) : Calls Tryz.prog 24 #[.pointer (some ⟨b, 0, none⟩), .int .i64 n] w (fun e w' => e = .returned (.tuple #[.int .i64 (t.target n).1, .int .i64 (t.target n).2]) ∧ Only [] w w') := by
  refine calls_abs fun R hR => ?_
  have hE : t.target n = ((t.entry n).1.tgt, (t.entry n).2) := by unfold Tb.target Tb.entry; split <;> rfl
  rw [hE] at hR
  have ca := tat_rep w h n
  unfold enV at ca
  clear hE h
  generalize t.entry n = r at *
  obtain ⟨en, er⟩ := r
  obtain ⟨c0, c1, c2⟩ := en
  go_enter Tryz.func24, Tryz.ntmps24
  go_wp2_with fail
  refine ca.mono ?_
  rintro e w1 ⟨rfl, ho⟩
  have HO3 := Lib.hid (ho.alloc (.cells #[.int .i64 c0, .int .i64 c1, .int .i64 c2] 123))
  have y0 := (Row.new w1 123 [.int .i64 c0, .int .i64 c1, .int .i64 c2]).cell 0 rfl
  have y1 := (Row.new w1 123 [.int .i64 c0, .int .i64 c1, .int .i64 c2]).cell 1 rfl
  clear ho ca
  go_wp2_with fail
  exact hR.out _ _ ⟨rfl, HO3.out⟩
theorem kindOf_any (w : World) (n : Nat) : Calls Tryz.prog 160 #[.int .i64 (n : Int)] w (Exact w (.int .i64 (if n = 4 then 3 else n : Nat))) := by
  refine calls_abs fun R hR => ?_
  by_cases h : n = 4
  · subst h
    go_enter Tryz.func160, Tryz.ntmps160
    go_wp2_with fail
    exact hR.out _ _ ⟨rfl, rfl⟩
  · rw [if_neg h] at hR
    have h2 : ((n : Int) == 4) = false := by rw [beq_eq_false_iff_ne]; omega
    go_enter Tryz.func160, Tryz.ntmps160
    go_wp2_with fail
    exact hR.out _ _ ⟨rfl, rfl⟩
theorem Mk.isW_eq (hk : m.M.Ok) (x : Int) : m.isW x = (decide (x ≠ 0) && (decide ((m.color x).2 = 0) && decide ((m.color x).1 = 0))) := by
  unfold Mk.isW Mk.color
  by_cases h0 : x = 0
  · subst h0; rw [fst_zero hk]; simp
  · cases h : (m.M.ob x).isSome <;> simp [h0]
theorem isWhite_rep (w : World) (T2 : Two2 l i j) (hf : Fam w0 w (ML l i j hb p m)) (x : Int) (hx : wfI x) : Calls Tryz.prog 151 #[.pointer (some ⟨p, 0, none⟩), .int .i64 x] w (Same w (.bool (m.isW x))) := by
  refine calls_abs fun R hR => ?_
  have cc := mcolor_rep w T2 hf x hx
  obtain ⟨hk, _⟩ := ML.ph T2 hf
  rw [Mk.isW_eq hk] at hR
  clear hk hf
  generalize m.color x = r at *
  obtain ⟨c, e⟩ := r
  by_cases h0 : x = 0
  · have hh : (decide (x ≠ 0) && (decide (e = 0) && decide (c = 0))) = false := by simp [h0]
    simp only at hR
    rw [hh] at hR
    subst h0
    go_enter Tryz.func151, Tryz.ntmps151
    go_wp2_with fail
    refine cc.mono ?_
    rintro e _ ⟨rfl, n, rfl⟩
    clear cc hh
    go_wp2_with fail
    exact hR.out _ _ ⟨rfl, n, rfl⟩
  · have hx0 : (x != 0) = true := by simp [h0]
    by_cases h1 : e = 0
    · by_cases h2 : c = 0
      · have hh : (decide (x ≠ 0) && (decide (e = 0) && decide (c = 0))) = true := by simp [h0, h1, h2]
        simp only at hR
        rw [hh] at hR
        subst h1 h2
        go_enter Tryz.func151, Tryz.ntmps151
        go_wp2_with fail
        refine cc.mono ?_
        rintro e _ ⟨rfl, n, rfl⟩
        clear cc hh
        go_wp2_with fail
        exact hR.out _ _ ⟨rfl, n, rfl⟩
      · have hh : (decide (x ≠ 0) && (decide (e = 0) && decide (c = 0))) = false := by simp [h2]
        simp only at hR
        rw [hh] at hR
        subst h1
        have hc : (c == 0) = false := by rw [beq_eq_false_iff_ne]; exact h2
        go_enter Tryz.func151, Tryz.ntmps151
        go_wp2_with fail
        refine cc.mono ?_
        rintro e _ ⟨rfl, n, rfl⟩
        clear cc hh
        go_wp2_with fail
        exact hR.out _ _ ⟨rfl, n, rfl⟩
    · have hh : (decide (x ≠ 0) && (decide (e = 0) && decide (c = 0))) = false := by simp [h1]
      simp only at hR
      rw [hh] at hR
      have hc : (e == 0) = false := by rw [beq_eq_false_iff_ne]; exact h1
      go_enter Tryz.func151, Tryz.ntmps151
      go_wp2_with fail
      refine cc.mono ?_
      rintro e _ ⟨rfl, n, rfl⟩
      clear cc hh
      go_wp2_with fail
      exact hR.out _ _ ⟨rfl, n, rfl⟩
theorem ttake_nil (w : World) : Calls Tryz.prog 124 #[.pointer none] w (Exact w (.tuple #[.int .i64 0, .int .i64 1])) := by
  refine calls_abs fun R hR => ?_
  go_enter Tryz.func124, Tryz.ntmps124
  go_wp2_with fail
  refine (tnone_nil _).mono ?_
  rintro e _ ⟨rfl, rfl⟩
  go_wp2_with fail
  exact hR.out _ _ ⟨rfl, rfl⟩
theorem ttake_rep (w : World) (T3 : Three l i j k) (hf : Fam w0 w (PL l i j k hb p b m t kk)) (hl : t.q.length ≤ 1000000) : Calls Tryz.prog 124 #[.pointer (some ⟨b, 0, none⟩)] w (fun e w' => e = .returned (.tuple #[.int .i64 t.take.1, .int .i64 t.take.2.1]) ∧ Fam w0 w' (PL l i j k hb p b m t.take.2.2 kk)) := by
  refine calls_abs fun R hR => ?_
  obtain ⟨ev, qv, mo, ht⟩ := PL.tb T3 hf
  obtain ⟨z0, z1, z2, z3, z4, z5, zf⟩ := ht.cells
  have hn := tnone_rep w z0
  have HT := Lib.hid ht
  have HF := Lib.hid hf
  unfold Tb.take at hR
  cases e : t.q with
  | nil =>
    rw [e] at hR
    have hi := ht.q
    rw [e] at hi
    obtain ⟨a, c, rfl⟩ := hi.len
    clear ht hi hf
    replace z2 : w.cell? ⟨b, 2, none⟩ = some (.slice a 0 c) := z2
    go_enter Tryz.func124, Tryz.ntmps124
    go_wp2_with fail
    refine hn.mono ?_
    rintro e _ ⟨rfl, rfl⟩
    go_wp2_with fail
    exact hR.out _ _ ⟨rfl, HF.out⟩
  | cons x r =>
    rw [e] at hR
    have hi := ht.q
    rw [e] at hi
    have hrl : r.length ≤ 1000000 := by rw [e] at hl; simp at hl; omega
    have cd := del1_any w 0 qv x r hi hrl
    obtain ⟨a, c, hqv⟩ := hi.len
    subst hqv
    obtain ⟨g, o, rfl, hc⟩ := hi.read.at (k := 0) (by simp)
    rw [Nat.add_zero] at hc
    replace hc : w.cell? ⟨g, o, none⟩ = some (.int .i64 x) := hc
    replace z2 : w.cell? ⟨b, 2, none⟩ = some (.slice (some ⟨g, o, none⟩) (r.length + 1) c) := z2
    replace cd : Calls Tryz.prog 197 #[.slice (some ⟨g, o, none⟩) (r.length + 1) c, .int .i64 0, .int .i64 1] w fun e w' => ∃ v', e = .returned v' ∧ Ints w' 0 v' r ∧ v'.ownBlock = (Value.slice (some ⟨g, o, none⟩) (r.length + 1) c).ownBlock ∧ Only (Value.slice (some ⟨g, o, none⟩) (r.length + 1) c).ownBlock.toList w w' := cd
    obtain ⟨n, hnn⟩ : ∃ n, n = r.length := ⟨_, rfl⟩
    rw [← hnn] at z2 cd
    have HN := Lib.hid hnn
    have hn1 : ((n : Int) + 1 == 0) = false := by rw [beq_eq_false_iff_ne]; omega
    have hn2 : (0 : Int) < (n : Int) + 1 := by omega
    clear hi hnn hl hrl ht hf
    go_enter Tryz.func124, Tryz.ntmps124
    go_wp2_with fail
    refine hn.mono ?_
    rintro e _ ⟨rfl, rfl⟩
    go_wp2_with fail
    refine cd.mono ?_
    rintro e w2 ⟨v', rfl, hi2, hown, ho⟩
    have hog : Only [g] w w2 := ho
    have hgb : g ≠ b := (HT.out.n2 g rfl).1
    have hR2 : ∃ U, Row w2 b U [.bool true, ev, .slice (some ⟨g, o, none⟩) (r.length + 1) c, .int .i64 (t.ph : Int), .int .i64 (t.nx : Int), .map mo] := HT.out.row.imp fun U x => hog.row x (by simp; exact fun e => hgb e.symm)
    have hz : w2.cell? ⟨b, 2, none⟩ = some (.slice (some ⟨g, o, none⟩) (n + 1) c) ∧ w2.frozen? ⟨b, 2, none⟩ = false := by
      obtain ⟨U, x⟩ := hR2
      exact ⟨by rw [HN.out]; exact x.cell 2 rfl, x.free 2⟩
    obtain ⟨y2, yf⟩ := hz
    have HFN : Hid (Fam w0 (w2.setCell ⟨b, 2, none⟩ v') (PL l i j k hb p b m ⟨t.ents, r, t.ph, t.nx, t.fd⟩ kk)) := by
      have hs : Only [b] w2 (w2.setCell ⟨b, 2, none⟩ v') := (Only.refl _ w2).set (.inl (by simp)) _
      have hP : Only [b, g] w (w2.setCell ⟨b, 2, none⟩ v') := (hog.mono (by simp)).set (.inl (by simp)) _
      have ho2 : ∀ x, v'.ownBlock = some x → x = g := fun x hx => by rw [hown] at hx; cases hx; rfl
      refine PL.tbT T3 HF.out HT.out ev v' mo _ _ ⟨hR2.imp fun U x => x.set 2 _, HT.out.ents.only hP (fun x hx => ?_), hi2.only hs (fun x hx => ?_), fun mb e => ?_, HT.out.two, fun x hx => ⟨(HT.out.n1 x hx).1, (HT.out.n1 x hx).2.1, fun e => ?_⟩, fun x hx => ?_, HT.out.n3⟩ (fun x hx => ?_) (hP.toP (fun x hx => ?_))
      · have := HT.out.n1 x hx
        simp only [List.mem_cons, List.not_mem_nil, or_false, not_or]
        exact ⟨this.1, fun e => this.2.2 (by rw [e]; rfl)⟩
      · rw [ho2 x hx]; simpa using hgb
      · obtain ⟨n, f, h1, h2⟩ := HT.out.fnd mb e
        refine ⟨n, f, h1.only (hP.toP (S := fun x => x = b ∨ x = g) (fun x hx => .inl (by simpa using hx))) ?_, h2⟩
        rintro (rfl | rfl)
        · exact HT.out.n3 e
        · exact (HT.out.n2 mb rfl).2 e
      · have h3 := ho2 x e
        exact (HT.out.n1 x hx).2.2 (by rw [h3]; rfl)
      · rw [ho2 x hx]; exact HT.out.n2 g rfl
      · rcases hx with hx | hx | hx | hx
        · exact .inl (.inl hx)
        · exact .inl (.inr (.inl hx))
        · exact .inl (.inr (.inr (.inl (by rw [ho2 x hx]; rfl))))
        · exact .inl (.inr (.inr (.inr hx)))
      · simp only [List.mem_cons, List.not_mem_nil, or_false] at hx
        rcases hx with rfl | rfl
        · exact .inl (.inl rfl)
        · exact .inl (.inr (.inr (.inl rfl)))
    obtain ⟨a3, c3, rfl⟩ := hi2.len
    clear hi2 hown ho hog hR2 cd
    generalize r.length = n3 at *
    go_wp2_with fail
    exact hR.out _ _ ⟨rfl, HFN.out⟩
end
end Go.Proofs.YthflghdaejbdkaaGreat
