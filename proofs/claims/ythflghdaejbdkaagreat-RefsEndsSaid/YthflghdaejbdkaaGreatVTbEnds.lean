/- Lemmas of this claim. -/
import Derived.Test.YthflghdaejbdkaaGreatVTbPlays
import Derived.Test.YthflghdaejbdkaaGreatVTbCyc
import Derived.Test.YthflghdaejbdkaaGreatVTbGF
import Derived.Test.YthflghdaejbdkaaGreatVApp
namespace Go.Proofs.YthflghdaejbdkaaGreat
open Go.RowKit Go.Maps
set_option maxHeartbeats 12800000
set_option maxRecDepth 100000
set_option linter.unusedVariables false
theorem step_appB {ops : Array Oper} {o : Oper} {ac : Act} {wl : World} {K : Act → World → Prop} {Q : Exit → Act → World → Prop} {E : Prop} (hgd : o.guard = none) (s x : Operand)
    (ho : o.op = .call { callee := .builtin .append, args := #[s, x], argTypes := #[23, 23] }) (w0 : World) (hO : Only [] w0 wl)
    (b ln lc : Nat) (l : List Int) (hs : ac.eval s = .slice (some ⟨b, 0, none⟩) ln lc) (hll : l.length = ln) (hown : Ints wl w0.heap.size (.slice (some ⟨b, 0, none⟩) ln lc) l) (va : Option Addr) (m vc : Nat) (news : List Int) (hx : ac.eval x = .slice va m vc) (hl : news.length = m) (hr : Read wl (.slice va m vc) news) (n : Nat) (hn : ln + m = n) (hb : n ≤ 1000000)
    (h : ∀ g cap w', Ints w' w0.heap.size (.slice (some ⟨g, 0, none⟩) n cap) (l ++ news) → Only [] w0 w' → Only [b] wl w' → (g = b ∨ wl.heap.size ≤ g) → K (ac.put o.dst (.slice (some ⟨g, 0, none⟩) n cap)) w') :
    if Region.wanted o (yielded ops ac.tmps) = true then Oper.wp Tryz.prog o ac wl K Q else E := by
  subst hn
  by_cases h0 : m = 0
  · subst h0
    have hnil : news = [] := List.eq_nil_of_length_eq_zero hl
    subst hnil
    have hle : ln ≤ lc := by
      rcases hown.form with ⟨h1, _⟩ | ⟨g, cap, h1, _, _, h2, _⟩
      · cases h1
      · simp only [Value.slice.injEq] at h1
        omega
    exact step_app0 hgd s x ho (some ⟨b, 0, none⟩) ln lc hle va vc hs hx (h b lc wl (by rw [List.append_nil]; exact hown) hO (Only.refl _ _) (.inl rfl))
  · obtain ⟨i0, hi0, hz0, hz1, hz2⟩ := info_parts infoInt
    rcases hr with ⟨rb, ro, rc, e1, e2⟩ | ⟨oa, rc, e1, e2⟩
    · simp only [Value.slice.injEq] at e1
      obtain ⟨rfl, _, rfl⟩ := e1
      refine step_append_lies _ hgd s x 23 ho w0.heap.size 3 i0 _ 1 8 Tryz.underlying23 hi0 hz0 hz1 hz2 rfl (by omega) (.slice (some ⟨b, 0, none⟩) ln lc) ln (l.map (.int .i64)) hs (by rw [← hll] at hown ⊢; exact hown) ⟨rb, ro, none⟩ m vc (news.map (.int .i64)) hx (by simp [hl]) (fun j u hu => ?_) (fun u hu => ?_) (by omega) (by simp only [maxLen]; omega) (by omega) hO.size wl.heap.size rfl ?_
      · simp only [List.getElem?_map, Option.map_eq_some_iff] at hu
        obtain ⟨y, hy, rfl⟩ := hu
        have hj := (List.getElem?_eq_some_iff.1 hy).1
        have := e2 j hj
        rw [gI, hy] at this
        rw [addr_add]
        exact this
      · simp only [List.mem_map] at hu
        obtain ⟨y, _, rfl⟩ := hu
        rfl
      · intro g cap w' h1 h2 h3 h4
        refine h g cap w' ?_ (hO.grown h2 (fun k hk => .inr (hown.own k hk).1)) ((Only.refl _ _).grown h2 (fun k hk => .inl (by simp [Value.ownBlock] at hk; simp [hk]))) ?_
        · unfold Ints
          rw [List.length_append, hl, hll, List.map_append]
          exact h1
        · rcases h3 with h3 | h3
          · left; simp [Value.ownBlock] at h3; exact h3.symm
          · right; omega
    · exact absurd (by rw [← hl, e2]; rfl) h0
theorem Ints.beside {wq wl w1 : World} {base : Nat} {v : Value} {q : List Int} (hi : Ints wq base v q) (ho : Only [] wq wl) {b : Nat} (hk : Only [b] wl w1) (hne : ∀ k, v.ownBlock = some k → k ≠ b) : Ints w1 base v q :=
  (hi.only ho (by simp)).only hk (fun k e hm => hne k e (by simpa using hm))
theorem ups_len (t : Tb) (m : Mk) (k : Nat) : (t.ups m k).length ≤ k := by
  unfold Tb.ups Tb.upI
  rw [List.length_map]
  have := List.length_filter_le (fun i => t.upAt m i) (List.range k)
  rw [List.length_range] at this
  exact this
theorem walk_RefsEnds (la : Option Addr) (ln lc : Nat) (f : Nat → Nat → Int) (ra : Option Addr) (rn rc : Nat) (g : Nat → Int) (oa : Option Addr) (on oc : Nat) (fo : Nat → Nat → Int) (w : World) (hl : Recs 2 w la ln f) (hr : Numk w ra rn rc g) (ho : Recs 4 w oa on fo) :
    Calls Tryz.prog 3 #[.agg #[.slice la ln lc, .slice ra rn rc], .slice oa on oc] w fun e w' => e = .returned (.bool true) ∧ Below w.heap.size w w' := by
  refine calls_abs fun R hR => ?_
  have ho1 : Only [] w (w.alloc (.cells #[.slice la ln lc, .slice ra rn rc] 25)) := (Only.refl [] w).alloc _
  have HRW : Hid (Row (w.alloc (.cells #[.slice la ln lc, .slice ra rn rc] 25)) w.heap.size 25 [.slice la ln lc, .slice ra rn rc]) := Row.new w _ _
  have HO1 := Lib.hid ho1
  have HS := Lib.hid ((scr_of hl hr).only ho1)
  have HD := Lib.hid (Recs.only ho ho1)
  have HFIN : Hid (∀ w', Only [] w w' → Below w.heap.size w w') := fun w' h => h.bel
  clear hl hr ho ho1
  go_enter Tryz.func3, Tryz.ntmps3
  go_upto_region 1 with fail
  generalize w.alloc (.cells #[.slice la ln lc, .slice ra rn rc] 25) = w1 at *
  generalize w.heap.size = ws at *
  have c1 := lplay_any w1 la ln lc f ra rn rc (listF rn g) HS.out oa on oc fo HD.out
  go_wp2_with (refine wpList_load_agg rfl 25 _ rfl ws 0 rfl [.slice la ln lc, .slice ra rn rc] _ Tryz.underlying25 rfl sizeSt (row2_cells HRW.out) ?_)
  refine c1.mono ?_
  rintro e w2 ⟨bo, hb, q, p, r, tb, ub, m, t, rfl, hm, hg, hf⟩
  have HF := Lib.hid hf
  have HM := Lib.hid hm
  have HG := Lib.hid hg
  obtain ⟨_, _, _, _, _, hq⟩ := G7.trat hf
  have c2 := rtphase_rep w2 hq
  have b5 := (G7.row hf).cell 5 rfl
  clear c1 hf hm hg HS HD HRW hq
  by_cases hp : t.ph = 0
  case' pos =>
    rw [hp] at c2
    have HP0 : Hid (t.ph = 0) := hp
    clear hp
    go_upto_region 4 with fail
    go_wp2_with fail
    refine c2.mono ?_
    rintro e _ ⟨rfl, rfl⟩
    clear c2 b5
    go_upto_region 7 with fail
  case' neg =>
    have HP1 : Hid (∀ wx, Fam w1 wx (G7 bo hb q p r tb ub m m t t []) → Calls Tryz.prog 15 #[.pointer (some ⟨tb, 0, none⟩), .pointer (some ⟨p, 0, none⟩)] wx (fun e w' => e = .returned (.tuple #[.int .i64 (t.finish m).1, .int .i64 (t.finish m).2.1]) ∧ Fam w1 w' (G7 bo hb q p r tb ub (t.finish m).2.2.2 m (t.finish m).2.2.1 t []))) := fun wx hx => tfinish_rep wx (G7.TP bo hb q p r tb ub m m t t []) hx HG.out HM.out
    have HG1 : Hid (∀ wx, Fam w1 wx (G7 bo hb q p r tb ub (t.finish m).2.2.2 m (t.finish m).2.2.1 t []) → Calls Tryz.prog 16 #[.pointer (some ⟨ub, 0, none⟩), .pointer (some ⟨r, 0, none⟩)] wx (fun e w' => e = .returned (.tuple #[.int .i64 (t.finish m).1, .int .i64 (t.finish m).2.1]) ∧ Fam w1 w' (G7 bo hb q p r tb ub (t.finish m).2.2.2 (t.finish m).2.2.2 (t.finish m).2.2.1 (t.finish m).2.2.1 []))) := fun wx hx => rtfinish_rep wx (G7.TR bo hb q p r tb ub (t.finish m).2.2.2 m (t.finish m).2.2.1 t []) hx HG.out HM.out
    have hfin := HG.out.finish HM.out
    have HOK : Hid (Mk.Ok (t.finish m).2.2.2) := hfin.2.1
    have HGD : Hid (Tb.Good (t.finish m).2.2.1 (t.finish m).2.2.2) := hfin.1
    have HPZ : Hid ((t.finish m).2.2.1.ph = 0) := hfin.2.2.2
    have hp1 : ¬ ((t.ph : Int) = 0) := by omega
    clear hfin HM HG
    generalize HPH : t.ph = ph at *
    clear HPH
    generalize t.finish m = rr at *
    obtain ⟨r1, r2, r3, r4⟩ := rr
    go_upto_region 4 with fail
    go_wp2_with fail
    refine c2.mono ?_
    rintro e _ ⟨rfl, rfl⟩
    clear c2
    have b2 := (G7.row HF.out).cell 2 rfl
    have b4 := (G7.row HF.out).cell 4 rfl
    go_upto_region 5 with fail
    go_region_held3 (fun w' => w'.cell? ⟨bo, 2, none⟩ = some (.pointer (some ⟨p, 0, none⟩)) ∧ w'.cell? ⟨bo, 4, none⟩ = some (.pointer (some ⟨tb, 0, none⟩)))
      (first | (exact ⟨b2, b4⟩) | (exact ⟨(G7.row f3).cell 2 rfl, (G7.row f3).cell 4 rfl⟩))
      (first | (go_at_call 15; refine (HP1.out _ HF.out.drew).mono ?_; rintro e w3 ⟨rfl, f3⟩))
    have F3 := Lib.hid f3
    have b3 := (G7.row f3).cell 3 rfl
    have b5' := (G7.row f3).cell 5 rfl
    clear f3 HP1 b2 b4 b5 HF
    go_upto_region 6 with fail
    go_region_held3 (fun w' => w'.cell? ⟨bo, 3, none⟩ = some (.pointer (some ⟨r, 0, none⟩)) ∧ w'.cell? ⟨bo, 5, none⟩ = some (.pointer (some ⟨ub, 0, none⟩)))
      (first | (exact ⟨(G7.row F3.out).cell 3 rfl, (G7.row F3.out).cell 5 rfl⟩) | (exact ⟨(G7.row f4).cell 3 rfl, (G7.row f4).cell 5 rfl⟩))
      (first | (go_at_call 16; refine (HG1.out _ F3.out.drew).mono ?_; rintro e w4 ⟨rfl, f4⟩))
    clear F3 b3 b5' hp1 hp HG1 w3 m t
    generalize hm4 : r4 = m at *
    generalize ht3 : r3 = t at *
    generalize hw4 : w4 = w2 at *
    have HF : Hid (Fam w1 w2 (G7 bo hb q p r tb ub m m t t [])) := f4
    have HM : Hid (Mk.Ok m) := HOK.out
    have HG : Hid (Tb.Good t m) := HGD.out
    have HP0 : Hid (t.ph = 0) := HPZ.out
    clear f4 HOK HGD HPZ hm4 ht3 hw4
    go_upto_region 7 with fail
  all_goals
    as_aux_lemma =>
    have HP1 : Hid (∀ wx, Fam w1 wx (G7 bo hb q p r tb ub m m t t []) → Calls Tryz.prog 17 #[.pointer (some ⟨p, 0, none⟩)] wx (fun e w' => e = .returned (.int .i64 (m.runs : Int)) ∧ Fam w1 w' (G7 bo hb q p r tb ub m.run m t t []))) := fun wx hx => mrun_rep wx (G7.TP bo hb q p r tb ub m m t t []).two hx HM.out
    have HG1 : Hid (∀ wx, Fam w1 wx (G7 bo hb q p r tb ub m.run m t t []) → Calls Tryz.prog 18 #[.pointer (some ⟨r, 0, none⟩)] wx (fun e w' => e = .returned (.int .i64 (m.runs : Int)) ∧ Fam w1 w' (G7 bo hb q p r tb ub m.run m.run t t []))) := fun wx hx => grun_rep wx (G7.TR bo hb q p r tb ub m.run m t t []).two hx HM.out
    have HML : Hid (m.run.list = []) := (Mk.runs_spec HM.out).1
    have HMO : Hid m.run.Ok := (HM.out.steps m.runs).1
    have HGD : Hid (t.Good m.run) := HG.out.marker (fun k hk => by have := (HM.out.steps m.runs).2; show ((m.steps m.runs).M.ob k).isSome = true; rw [this]; exact hk)
    clear HM HG
    have b2 := (G7.row HF.out).cell 2 rfl
    generalize m.runs = rn at *
    generalize m.run = m' at *
    go_wp2_with fail
    refine (HP1.out _ HF.out).mono ?_
    rintro e w3 ⟨rfl, f3⟩
    have b3 := (G7.row f3).cell 3 rfl
    clear HP1 b2
    go_wp2_with fail
    refine (HG1.out _ f3).mono ?_
    rintro e w4 ⟨rfl, f4⟩
    have HF4 := Lib.hid f4
    obtain ⟨_, _, _, _, _, hq⟩ := G7.trat f4
    have cc := rtcopy_rep w4 hq HGD.out.b.le (by have := HGD.out.b.q20; omega)
    have b5 := (G7.row f4).cell 5 rfl
    clear HG1 b3 f3 f4 hq
    go_wp2_with fail
    refine cc.mono ?_
    rintro e w5 ⟨uc, rfl, hB⟩
    have HF5 : Hid (Fam w1 w5 (G7 bo hb q p r tb ub m' m' t t [TrA uc t])) := HF4.out.add hB
    clear cc b5 hB HF4 HF
    obtain ⟨e1, e2, e3, ce⟩ := cycle_end HGD.out.b HMO.out HML.out HP0.out
    have HP1 : Hid (∀ wx, Fam w1 wx (G7 bo hb q p r tb ub m' m' t t [TrA uc t]) → Calls Tryz.prog 20 #[.pointer (some ⟨tb, 0, none⟩), .pointer (some ⟨p, 0, none⟩)] wx (fun e w' => e = .returned (.int .i64 (t.begin m').1) ∧ Fam w1 w' (G7 bo hb q p r tb ub m' m' (t.begin m').2 t [TrA uc t]))) := fun wx hx => tbegin_rep wx (G7.TP bo hb q p r tb ub m' m' t t [TrA uc t]) hx HGD.out
    have HG1 : Hid (∀ wx, Fam w1 wx (G7 bo hb q p r tb ub m' m' (t.begin m').2 t [TrA uc t]) → Calls Tryz.prog 21 #[.pointer (some ⟨ub, 0, none⟩), .pointer (some ⟨r, 0, none⟩)] wx (fun e w' => e = .returned (.int .i64 (t.begin m').1) ∧ Fam w1 w' (G7 bo hb q p r tb ub m' m' (t.begin m').2 (t.begin m').2 [TrA uc t]))) := fun wx hx => rtbegin_rep wx (G7.TR bo hb q p r tb ub m' m' (t.begin m').2 t [TrA uc t]) hx HGD.out
    have HGB : Hid ((t.begin m').2.Good m') := HGD.out.begin HMO.out.hf.ok
    have HF1 : Hid (∀ wx, Fam w1 wx (G7 bo hb q p r tb ub m' m' (t.begin m').2 (t.begin m').2 [TrA uc t]) → Calls Tryz.prog 15 #[.pointer (some ⟨tb, 0, none⟩), .pointer (some ⟨p, 0, none⟩)] wx (fun e w' => e = .returned (.tuple #[.int .i64 ((t.begin m').2.finish m').1, .int .i64 ((t.begin m').2.finish m').2.1]) ∧ Fam w1 w' (G7 bo hb q p r tb ub ((t.begin m').2.finish m').2.2.2 m' ((t.begin m').2.finish m').2.2.1 (t.begin m').2 [TrA uc t]))) := fun wx hx => tfinish_rep wx (G7.TP bo hb q p r tb ub m' m' (t.begin m').2 (t.begin m').2 [TrA uc t]) hx HGB.out HMO.out
    have HGF : Hid (Tb.Good ((t.begin m').2.finish m').2.2.1 ((t.begin m').2.finish m').2.2.2) := (HGB.out.finish HMO.out).1
    have HCE := Lib.hid ce
    rw [e1] at HP1 HG1
    rw [e3] at HF1
    have b2 := (G7.row HF5.out).cell 2 rfl
    have b3 := (G7.row HF5.out).cell 3 rfl
    have b4 := (G7.row HF5.out).cell 4 rfl
    have b5 := (G7.row HF5.out).cell 5 rfl
    clear e1 e2 e3 ce HGB
    generalize (t.begin m').2.finish m' = rf at *
    generalize (t.begin m').2 = tbg at *
    obtain ⟨r1, r2, tf, mf⟩ := rf
    go_upto_region 10 with fail
    go_region_held3 (fun w' => w'.cell? ⟨bo, 2, none⟩ = some (.pointer (some ⟨p, 0, none⟩)) ∧ w'.cell? ⟨bo, 3, none⟩ = some (.pointer (some ⟨r, 0, none⟩)) ∧ w'.cell? ⟨bo, 4, none⟩ = some (.pointer (some ⟨tb, 0, none⟩)) ∧ w'.cell? ⟨bo, 5, none⟩ = some (.pointer (some ⟨ub, 0, none⟩)))
      (first | (exact ⟨b2, b3, b4, b5⟩) | (exact ⟨(G7.row f7).cell 2 rfl, (G7.row f7).cell 3 rfl, (G7.row f7).cell 4 rfl, (G7.row f7).cell 5 rfl⟩) | (exact ⟨(G7.row f6).cell 2 rfl, (G7.row f6).cell 3 rfl, (G7.row f6).cell 4 rfl, (G7.row f6).cell 5 rfl⟩))
      (first | (go_at_call 20; refine (HP1.out _ HF5.out.drew).mono ?_; rintro e w6 ⟨rfl, f6⟩) | (go_at_call 21; refine (HG1.out _ f6).mono ?_; rintro e w7 ⟨rfl, f7⟩))
    have HF7 := Lib.hid f7
    have b2' := (G7.row f7).cell 2 rfl
    have b4' := (G7.row f7).cell 4 rfl
    clear f6 f7 HP1 HG1 b2 b3 b4 b5 HF5
    go_upto_region 12 with fail
    go_region_held3 (fun w' => w'.cell? ⟨bo, 2, none⟩ = some (.pointer (some ⟨p, 0, none⟩)) ∧ w'.cell? ⟨bo, 4, none⟩ = some (.pointer (some ⟨tb, 0, none⟩)))
      (first | (exact ⟨b2', b4'⟩) | (exact ⟨(G7.row f8).cell 2 rfl, (G7.row f8).cell 4 rfl⟩))
      (first | (go_at_call 15; refine (HF1.out _ HF7.out.drew).mono ?_; rintro e w8 ⟨rfl, f8⟩))
    have HF8 : Hid (Fam w1 w8 (G7 bo hb q p r tb ub mf m' tf tbg [TrA uc t])) := f8
    clear f8 HF7 HF1 b2' b4'
    obtain ⟨_, _, _, hc1⟩ := G7.tbat HF8.out
    obtain ⟨S8, ⟨ev, qv, wv, nx, wl, hu, _⟩, _⟩ := HF8.out.get 7 rfl
    have HO8 : Hid (Only [] w w8) := HO1.out.trans HF8.out.only (by simp)
    have HU := Lib.hid hu
    have hc := tphase_rep w8 hc1
    rw [HCE.out.ph] at hc
    have b4 := (G7.row HF8.out).cell 4 rfl
    have hq20 := HGF.out.b.q20
    have hq21 := HGD.out.b.q20
    have HB : Hid (∀ wx, Only [] w8 wx → wx.cell? ⟨bo, 2, none⟩ = some (.pointer (some ⟨p, 0, none⟩)) ∧ wx.cell? ⟨bo, 4, none⟩ = some (.pointer (some ⟨tb, 0, none⟩)) ∧ wx.cell? ⟨uc, 1, none⟩ = some qv) := fun wx ho => by
      have h := G7.row (HF8.out.only0 ho)
      exact ⟨h.cell 2 rfl, h.cell 4 rfl, (HU.out.only0 ho).cells.2.1⟩
    have HCL : Hid (∀ wx, Only [] w8 wx → Calls Tryz.prog 23 #[.pointer (some ⟨uc, 0, none⟩)] wx (Exact wx (.int .i64 (t.ents.length : Int)))) := fun wx ho => rtlen_rep wx (HU.out.only0 ho)
    have HT1 : Hid (∀ wx n, Only [] w8 wx → Calls Tryz.prog 24 #[.pointer (some ⟨tb, 0, none⟩), .int .i64 n] wx (fun e w' => e = .returned (.tuple #[.int .i64 (tf.target n).1, .int .i64 (tf.target n).2]) ∧ Only [] wx w')) := fun wx n ho => ttarget_rep wx (hc1.only0 ho) n
    have HTG : Hid (∀ k : Nat, k < t.ents.length → tf.target (k : Int) = ((eAt tf.ents k).tgt, 0)) := fun k hk => by
      unfold Tb.target
      rw [if_neg (by rw [HCE.out.len]; omega)]
      rfl
    have HQ1 : Hid (∀ wx, Only [] w8 wx → Calls Tryz.prog 27 #[.pointer (some ⟨tb, 0, none⟩)] wx (RetL wx (t.q ++ t.ups m' t.ents.length))) := fun wx ho => by
      have := tqueue_rep wx (hc1.only0 ho) (by omega)
      rwa [HCE.out.q] at this
    have HCO : Hid (∀ wx x, Only [] w8 wx → (mf.M.ob x).isSome = true → mf.col x = 2 → Calls Tryz.prog 25 #[.pointer (some ⟨p, 0, none⟩), .int .i64 x] wx (Same wx (.tuple #[.int .i64 2, .int .i64 0]))) := fun wx x ho hx h2 => by
      have h := mcolor_rep wx (G7.TP bo hb q p r tb ub mf m' tf tbg [TrA uc t]).two (HF8.out.only0 ho) x (by have := HCE.out.mo.hf.ok.inR hx; exact wfI_mk (by omega))
      unfold Mk.color at h
      rw [if_pos hx, h2] at h
      exact h
    have HDN : Hid (∀ wx, Only [] w8 wx → Calls Tryz.prog 28 #[.pointer (some ⟨p, 0, none⟩)] wx (Exact wx (.bool true))) := fun wx ho => by
      have h := mdone_rep wx (G7.TP bo hb q p r tb ub mf m' tf tbg [TrA uc t]).two (HF8.out.only0 ho)
      rw [HCE.out.nil] at h
      exact h
    have HQI : Hid (∀ wx, Only [] w8 wx → Read wx qv t.q) := fun wx ho => (HU.out.only0 ho).q.read
    obtain ⟨qa, qc, hqv⟩ := hu.q.len
    obtain ⟨qn, hqn⟩ : ∃ z, t.q.length = z := ⟨_, rfl⟩
    rw [hqn] at hqv
    subst hqv
    have HL20 := Lib.hid HGD.out.b.le
    have HQL : Hid ((t.q ++ t.ups m' t.ents.length).length ≤ 20) := by rw [← HCE.out.q]; exact hq20
    have hqn20 : qn ≤ 20 := by omega
    have HQN := Lib.hid hqn
    clear hc1 hu hq20 hq21 hqn HF8 HGF
    go_upto_region 13 with fail
    go_wp2_with fail
    refine hc.mono ?_
    rintro e _ ⟨rfl, rfl⟩
    clear hc b4
    have HZ := Lib.hid (Only.refl [] w8)
    have HBD := Lib.hid HGD.out.b
    generalize HLEN : t.ents.length = len at *
    go_upto_region 17 with fail
    go_wp2_with fail
    go_loopw [10, 11] (fun v iv wr => ∃ k : Nat, k ≤ len ∧ iv = .int .i64 k ∧ Ints wr w8.heap.size v (t.ups m' k) ∧ Only [] w8 wr) (fun _ iv _ => len - (intOf iv).toNat)
    case atStart => exact ⟨0, by omega, rfl, Ints.nil _ _, HZ.out⟩
    case round => as_aux_lemma =>
      clear HZ
      obtain ⟨k, hk, rfl, hv, ho⟩ := hrel
      have HO := Lib.hid ho
      have HV := Lib.hid hv
      have cl := HCL.out _ ho
      obtain ⟨b2, b4, u1⟩ := HB.out _ ho
      clear hv ho
      by_cases hlt : k < len
      · as_aux_lemma =>
        have hlt1 : (k : Int) < (len : Int) := by omega
        have h20 := HL20.out
        have c1 := HT1.out wr (k : Int) HO.out
        rw [HTG.out k hlt] at c1
        have hX := HCE.out.tgt HBD.out HMO.out HML.out (by rw [HLEN]; exact hlt)
        have hU := HCE.out.up HBD.out HMO.out (i := k) (by rw [HLEN]; exact hlt)
        have hN := @ups_succ t m' k
        have HEN : Hid (∀ wx, Only [] w8 wx → ∃ ga cap, wx.cell? ⟨uc, 0, none⟩ = some (.slice (some ⟨ga, 0, none⟩) len cap) ∧ len ≤ cap ∧ wx.cell? ⟨ga, k * 3, none⟩ = some (.int .i64 (eAt t.ents k).kind) ∧ wx.cell? ⟨ga, k * 3 + 1, none⟩ = some (.int .i64 (eAt t.ents k).tgt) ∧ wx.cell? ⟨ga, k * 3 + 2, none⟩ = some (.int .i64 (eAt t.ents k).tag)) := fun wx hx => by
          have hu := HU.out.only0 hx
          obtain ⟨ga, cap, hev, _, hcap, k0, k1, k2, _⟩ := hu.ents.at (i := k) (by rw [HLEN]; exact hlt)
          have z0 := hu.cells.1
          rw [hev, HLEN] at z0
          rw [HLEN] at hcap
          exact ⟨ga, cap, z0, hcap, k0, k1, k2⟩
        have HUL := Lib.hid (ups_len t m' k)
        clear HTG HT1 HBD HCE HU HCL hlt HLEN HQ1 HQI HQN HQL HGD HMO HML u1 b2 HDN
        generalize (eAt tf.ents k).tgt = X at *
        generalize (eAt t.ents k).tgt = Y at *
        generalize (eAt t.ents k).kind = K at *
        generalize (eAt t.ents k).tag = T at *
        by_cases hX0 : X = 0
        · as_aux_lemma =>
          subst hX0
          clear hX
          go_wp2_with fail
          refine cl.mono ?_
          rintro e _ ⟨rfl, rfl⟩
          clear cl
          go_wp2_with fail
          refine c1.mono ?_
          rintro e w9 ⟨rfl, ho9⟩
          have HO9 : Hid (Only [] w8 w9) := HO.out.trans ho9 (by simp)
          have HV9 := Lib.hid (HV.out.only ho9 (by simp))
          obtain ⟨ga, cap, z0, hcap, k0, k1, k2⟩ := HEN.out _ HO9.out
          clear c1 ho9 HO HV b4 HEN
          by_cases hY : Y = 0
          · subst hY
            rw [if_neg (fun h => (hU.1 h).2.1 rfl), List.append_nil] at hN
            have HNN := Lib.hid hN
            clear hN hU
            go_wp2_with fail
            exact ⟨⟨k + 1, by omega, by go_num, by rw [HNN.out]; exact HV9.out, HO9.out⟩, by simp [intOf]; omega⟩
          · have hYb : (Y != 0) = true := by simpa using hY
            have hYc : (Y == 0) = false := by simpa using hY
            by_cases hK : K = 2
            · subst hK
              rw [if_pos (hU.2 ⟨by trivial, hY, by trivial⟩)] at hN
              have HNN := Lib.hid hN
              clear hN hU
              go_wp2_with (at_builtin; refine append_int1 rfl _ _ rfl w8.heap.size _ _ rfl (HV9.out.alloc _) w9.heap.size T rfl ?c1 ?c2 ?c3 ?c4)
              case c1 => exact (Row.new w9 _ [_]).cell 0 rfl
              case c2 => have := HUL.out; omega
              case c3 => have := HO9.out.size; simp; omega
              case c4 =>
                intro v' wa hv1 ho1 hb1
                have HVA := Lib.hid hv1
                have HOA := Lib.hid (own_past HO9.out HV9.out ho1)
                clear hv1 ho1 hb1 z0 k0 k1 k2 HV9
                go_wp2_with fail
                exact ⟨⟨k + 1, by omega, by go_num, by rw [HNN.out]; exact HVA.out, HOA.out⟩, by simp [intOf]; omega⟩
            · have hKb : (K == 2) = false := by simpa using hK
              rw [if_neg (fun h => hK (hU.1 h).2.2), List.append_nil] at hN
              have HNN := Lib.hid hN
              clear hN hU
              go_wp2_with fail
              exact ⟨⟨k + 1, by omega, by go_num, by rw [HNN.out]; exact HV9.out, HO9.out⟩, by simp [intOf]; omega⟩
        · as_aux_lemma =>
          obtain ⟨hXY, hus, hcol⟩ := hX.resolve_left hX0
          subst hXY
          rw [if_neg (fun h => hX0 (hU.1 h).1), List.append_nil] at hN
          have HNN := Lib.hid hN
          have HCC : Hid (∀ wx, Only [] w8 wx → Calls Tryz.prog 25 #[.pointer (some ⟨p, 0, none⟩), .int .i64 X] wx (Same wx (.tuple #[.int .i64 2, .int .i64 0]))) := fun wx ho => HCO.out wx X ho hus hcol
          clear hN hU hus hcol
          go_wp2_with fail
          refine cl.mono ?_
          rintro e _ ⟨rfl, rfl⟩
          clear cl
          go_wp2_with fail
          refine c1.mono ?_
          rintro e w9 ⟨rfl, ho9⟩
          have HO9 : Hid (Only [] w8 w9) := HO.out.trans ho9 (by simp)
          have HV9 := Lib.hid (HV.out.only ho9 (by simp))
          obtain ⟨ga, cap, z0, hcap, k0, k1, k2⟩ := HEN.out _ HO9.out
          have c2 := HCC.out _ HO9.out
          have d2 := (HB.out _ HO9.out).1
          clear c1 ho9 HO HV b4 HEN HCC
          go_wp2_with fail
          refine c2.mono ?_
          rintro e w10 ⟨rfl, n, rfl⟩
          have HO10 : Hid (Only [] w8 (w9.drewN n)) := HO9.out.drewN n
          have HV10 := Lib.hid (HV9.out.only ((Only.refl [] w9).drewN n) (by simp))
          clear c2 z0 k0 k1 k2 d2 HO9 HV9
          generalize w9.drewN n = wz at *
          go_wp2_with fail
          exact ⟨⟨k + 1, by omega, by go_num, by rw [HNN.out]; exact HV10.out, HO10.out⟩, by simp [intOf]; omega⟩
      · as_aux_lemma =>
        obtain rfl : k = len := by omega
        have hlt1 : ¬ ((k : Int) < (k : Int)) := by omega
        have hun := ups_len t m' k
        obtain ⟨va, vc, hve⟩ := HV.out.len
        obtain ⟨un, hne⟩ : ∃ z, (t.ups m' k).length = z := ⟨_, rfl⟩
        rw [hne] at hve
        subst hve
        have HQL2 : Hid ((t.q ++ t.ups m' k).length ≤ 1000) := by have := HQL.out; show _ ≤ 1000; omega
        have h20 := HL20.out
        have hsz := HO.out.size
        have HRD : Hid (∀ wx, Only [] wr wx → Only [] w8 wx) := fun wx h => HO.out.trans h (by simp)
        have HQI2 : Hid (∀ wx, Only [] wr wx → Read wx (.slice qa qn qc) t.q) := fun wx h => HQI.out _ (HRD.out _ h)
        have HUI : Hid (∀ wx, Only [] wr wx → Read wx (.slice va un vc) (t.ups m' k)) := fun wx h => (HV.out.only h (by simp)).read
        have HQ2 : Hid (∀ wx, Only [] wr wx → Calls Tryz.prog 27 #[.pointer (some ⟨tb, 0, none⟩)] wx (RetL wx (t.q ++ t.ups m' k))) := fun wx h => HQ1.out _ (HRD.out _ h)
        have HDN2 : Hid (∀ wx, Only [] wr wx → Calls Tryz.prog 28 #[.pointer (some ⟨p, 0, none⟩)] wx (Exact wx (.bool true))) := fun wx h => HDN.out _ (HRD.out _ h)
        have HB2 : Hid (∀ wx, Only [] wr wx → wx.cell? ⟨bo, 2, none⟩ = some (.pointer (some ⟨p, 0, none⟩)) ∧ wx.cell? ⟨bo, 4, none⟩ = some (.pointer (some ⟨tb, 0, none⟩)) ∧ wx.cell? ⟨uc, 1, none⟩ = some (.slice qa qn qc)) := fun wx h => HB.out _ (HRD.out _ h)
        have hq2 : qn + un ≤ 1000000 := by omega
        have HUN := Lib.hid hne
        clear HV HQ1 HDN HB HQI HQL hun HCE HU HCO HT1 HTG HCL HBD HL20 HLEN hlt HGD HMO HML HP0
        clear hne
        generalize t.ups m' k = ups at *
        go_wp2_with fail
        refine cl.mono ?_
        rintro e _ ⟨rfl, rfl⟩
        clear cl
        go_wp2_with fail
        have D0 : Hid (Only [] wr wr.drew) := (Only.refl [] wr).drew
        go_region_held3 (fun w' => w'.cell? ⟨bo, 2, none⟩ = some (.pointer (some ⟨p, 0, none⟩)) ∧ w'.cell? ⟨bo, 4, none⟩ = some (.pointer (some ⟨tb, 0, none⟩)) ∧ w'.cell? ⟨uc, 1, none⟩ = some (.slice qa qn qc))
          (exact HB2.out _ (by first | exact D0.out | exact only_a1 wr _ | exact hsE | exact hsI | exact hs2 | exact hs1 | exact hsQ | exact hsQ.alloc _))
          (first
            | (go_at_call 27; refine (HQ2.out _ (by first | exact D0.out | exact only_a1 wr _ | exact hs2 | exact hs1)).mono ?_; rintro e wQ ⟨vQ, rfl, hiQ, hoQ⟩; have hsQ : Only [] wr wQ := Only.trans (by first | exact D0.out | exact only_a1 wr _ | exact hs2 | exact hs1) hoQ (by simp))
            | (refine step_appB (by rfl) (.tmp 194) (.tmp 198) (by rfl) wr (by first | exact only_a1 wr _ | exact hsQ | exact hsQ.alloc _) _ 0 0 [] (by rfl) rfl (by first | exact made_alone wr | exact (made_alone wr).only hoQ (by simp) | exact (Ints.made wQ).base hsQ.size) qa qn qc t.q (by rfl) HQN.out (HQI2.out _ (by first | exact only_a1 wr _ | exact hsQ | exact hsQ.alloc _)) qn (by omega) (by omega) ?_; intro g1 cap1 w11 hi1 hs1 hk1 hg1)
            | (refine step_appB (by rfl) (.tmp 199) (.tmp 200) (by rfl) wr (by first | exact hs1 | exact hsQ) _ qn _ t.q (by rfl) HQN.out (by first | exact hi1 | exact hi1.only hoQ (by simp)) va un vc ups (by rfl) HUN.out (HUI.out _ (by first | exact hs1 | exact hsQ)) (qn + un) rfl hq2 ?_; intro g2 cap2 w12 hi2 hs2 hk2 hg2)
            | (go_at_call 26; refine (rints_same _ _ _ (t.q ++ ups) (by first
                | exact hiQ.read
                | exact (Ints.beside hiQ (Only.refl [] _) hk2 (fun k e => by have h1 := (hiQ.own k e).1; have h2 := (hi1.own g1 rfl).2; omega)).read
                | exact ((Ints.beside hiQ (Only.refl [] _) hk1 (fun k e => by have h1 := (hiQ.own k e).1; simp at h1; omega)).beside (Only.refl [] _) hk2 (fun k e => by have h1 := hiQ.own k e; simp at h1; omega)).read
                | exact ((Ints.beside hiQ ((Only.refl [] _).alloc _) hk1 (fun k e => by have h1 := (hiQ.own k e).2; omega)).beside (Only.refl [] _) hk2 (fun k e => by have h1 := (hiQ.own k e).2; simp at hg1; omega)).read) (by first | exact hi2.read | exact (hi2.only hoQ (by simp)).read) HQL2.out).mono ?_; rintro e wI ⟨rfl, hdI⟩; have hsI : Only [] wr wI := Only.trans (by first | exact hs2 | exact hsQ) (hdI.only []) (by simp))
            | (go_at_call 28; refine (HDN2.out _ hsI).mono ?_; rintro e _ ⟨rfl, rfl⟩)
            | (go_at_call 29; refine (ssane_any _).mono ?_; rintro e wE ⟨rfl, hoE⟩; have hsE : Only [] wr wE := hsI.trans hoE (by simp)))
        all_goals
          have HE : Hid (Below ws w wE) := HFIN.out _ (HO8.out.trans (HO.out.trans hsE (by simp)) (by simp))
          go_wp2_with fail
          exact hR.out _ _ ⟨rfl, HE.out⟩
end Go.Proofs.YthflghdaejbdkaaGreat
