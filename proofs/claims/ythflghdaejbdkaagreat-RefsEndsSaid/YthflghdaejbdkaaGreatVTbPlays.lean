/- Lemmas of this claim. -/
import Derived.Test.YthflghdaejbdkaaGreatVTbL
import Derived.Test.YthflghdaejbdkaaGreatVTbB
namespace Go.Proofs.YthflghdaejbdkaaGreat
open Go.RowKit Go.Maps
set_option maxHeartbeats 12800000
set_option maxRecDepth 100000
set_option linter.unusedVariables false
theorem rints_same (w : World) (v1 v2 : Value) (l : List Int) (h1 : Read w v1 l) (h2 : Read w v2 l) (hl : l.length ≤ 1000) :
    Calls Tryz.prog 26 #[v1, v2] w (fun e w' => e = .returned (.bool true) ∧ Drew w w') := by
  refine calls_abs fun R hR => ?_
  obtain ⟨a1, c1, rfl⟩ := h1.len
  obtain ⟨a2, c2, rfl⟩ := h2.len
  have H1 := Lib.hid h1
  have H2 := Lib.hid h2
  obtain ⟨n, hn⟩ : ∃ n, n = l.length := ⟨_, rfl⟩
  rw [← hn] at hl H1 H2 ⊢
  have HN := Lib.hid hn
  clear h1 h2 hn
  go_enter Tryz.func26, Tryz.ntmps26
  go_wp2_with fail
  go_loopw [5] (fun iv wr => ∃ k m : Nat, k ≤ n ∧ iv = .int .i64 k ∧ wr = w.drewN m) (fun iv _ => n - (intOf iv).toNat)
  case atStart => exact ⟨0, 0, by omega, rfl, rfl⟩
  case round =>
    obtain ⟨k, m, hk, rfl, rfl⟩ := hrel
    by_cases hlt : k < n
    · have hlt' : k < l.length := by have := HN.out; omega
      rcases H1.out with ⟨b1, o1, d1, f1, g1⟩ | ⟨oa, d, f1, g1⟩
      rotate_left
      · rw [g1] at hlt'; simp at hlt'
      rcases H2.out with ⟨b2, o2, d2, f2, g2⟩ | ⟨oa, d, f2, g2⟩
      rotate_left
      · rw [g2] at hlt'; simp at hlt'
      have e1 : a1 = some ⟨b1, o1, none⟩ := by cases f1; rfl
      have e2 : a2 = some ⟨b2, o2, none⟩ := by cases f2; rfl
      subst e1 e2
      have k1 := g1 k hlt'
      have k2 := g2 k hlt'
      have hb1 : (0 : Int) ≤ k := by omega
      have hb2 : (k : Int) < n := by omega
      generalize gI l k = z at *
      clear g1 g2 f1 f2
      go_wp2_with fail
      go_quiet (fail)
      go_wp2_with fail
      exact ⟨⟨k + 1, _, by omega, by go_num, rfl⟩, by simp [intOf]; omega⟩
    · obtain rfl : k = n := by omega
      go_wp2_with fail
      exact hR.out _ _ ⟨rfl, m, rfl⟩
def sM0 : Hp := Hp.new 2
def sM1 : Hp := (sM0.newObject 0 []).2.2
def sm : Mk := (Mk.start sM1).shades []
def sT1 : Tb := (Tb.new.add sm 1 1 5).2.2
def sT2 : Tb := (sT1.add sm 2 1 6).2.2
def sT3 : Tb := (sT2.begin sm).2
def sS (k : Nat) : Tb × Mk := Tb.steps k (sT3, sm)
theorem ssane_r : (sM0.newObject 0 []).1 = 1 ∧ (sM0.newObject 0 []).2.1 = 0 ∧ (Tb.new.add sm 1 1 5).1 = 0 ∧ (Tb.new.add sm 1 1 5).2.1 = 0 ∧ (sT1.add sm 2 1 6).1 = 1 ∧ (sT1.add sm 2 1 6).2.1 = 0 ∧ (sT2.begin sm).1 = 0 ∧ sT3.ph = 1 := by decide +kernel
theorem ssane_s : ((sS 0).1.step (sS 0).2).2.2.1 = 0 ∧ ((sS 1).1.step (sS 1).2).2.2.1 = 0 ∧ ((sS 2).1.step (sS 2).2).2.2.1 = 0 ∧ ((sS 3).1.step (sS 3).2).2.2.1 = 3 ∧ (sS 4).1.target 0 = (0, 0) ∧ (sS 4).1.q = [6] := by decide +kernel
theorem ssane_ok : sM0.OkF ∧ sM1.OkF ∧ sm.Ok ∧ sT1.Good sm ∧ sT2.Good sm ∧ sT3.Good sm := by
  have h0 : sM0.OkF := Hp.OkF.new (by decide) (by decide)
  have h1 : sM1.OkF := h0.newObject 0 []
  have h2 : sm.Ok := Mk.Ok.shades _ _ (Mk.Ok.start h1)
  have h3 : sT1.Good sm := Tb.Good.new.add 1 1 5
  have h4 : sT2.Good sm := h3.add 2 1 6
  exact ⟨h0, h1, h2, h3, h4, h4.begin h2.hf.ok⟩
theorem ssane_fin : sT3.finish sm = (3, 0, (sS 4).1, (sS 4).2) := by
  obtain ⟨_, _, _, _, _, _, _, hp⟩ := ssane_r
  obtain ⟨s0, s1, s2, s3, _, _⟩ := ssane_s
  have hp0 : sT3.ph ≠ 0 := by rw [hp]; decide
  have h3 : 3 = sT3.fins sm := Tb.fins_eq ssane_ok.2.2.2.2.2 ssane_ok.2.2.1 hp0 (fun j hj => by
    unfold Tb.over
    match j, hj with
    | 0, _ => exact fun h => h s0
    | 1, _ => exact fun h => h s1
    | 2, _ => exact fun h => h s2) (by
    unfold Tb.over
    intro h
    have h2 : ((sS 3).1.step (sS 3).2).2.2.1 = 0 := h
    rw [s3] at h2
    cases h2)
  unfold Tb.finish
  rw [if_neg hp0, ← h3]
  rfl
theorem ssane_any (w : World) : Calls Tryz.prog 29 #[] w (fun e w' => e = .returned (.bool true) ∧ Only [] w w') := by
  refine calls_abs fun R hR => ?_
  obtain ⟨r1, r2, r3, r4, r5, r6, r7, _⟩ := ssane_r
  have hn := hnew_good w 2 (by decide) (by decide)
  go_enter Tryz.func29, Tryz.ntmps29
  go_wp2_with fail
  refine hn.mono ?_
  rintro e w1 ⟨hb, L, X, rfl, hp, hL, ho⟩
  have HF1 : Hid (Fam w w1 [PH hb sM0]) := (Fam.nil w).add (pborn hp ssane_ok.1 hL ho)
  have c2 := HF1.out.pstep 0 rfl (M' := sM1) (fun hk => hk.newObject 0 []) (fun L X hr hk => newObject_rep _ hr hk 0 (.slice none 0 0) [] (barg_nil _) (by decide))
  rw [r1, r2] at c2
  clear hn hp hL ho r1 r2
  go_wp2_with fail
  refine c2.mono ?_
  rintro e w2 ⟨rfl, f2⟩
  have HF2 : Hid (Fam w w2 [PH hb sM1]) := f2
  have c3 := mbegin_rep w2 HF2.out (i := 0) rfl none 0 0 [] rfl (by decide) (fun x hx => by simp at hx) (.inr ⟨none, 0, rfl, rfl⟩) (fun p w' m' h7 => .inr ⟨none, 0, rfl, rfl⟩)
  clear c2 f2 HF1
  go_wp2_with fail
  refine c3.mono ?_
  rintro e w3 (⟨hbad, _, _⟩ | ⟨_, p, rfl, f3⟩)
  · obtain ⟨x, hx, _⟩ := hbad; simp at hx
  have HF3 : Hid (Fam w w3 [PH hb sm.M, MkA p hb sm.col sm.list]) := f3
  have c4 := tnew_any w3
  clear c3 f3 HF2
  go_wp2_with fail
  refine c4.mono ?_
  rintro e w4 ⟨rfl, rfl⟩
  have HF4 : Hid (Fam w _ [PH hb sm.M, MkA p hb sm.col sm.list, TbA w3.heap.size Tb.new 0]) := HF3.out.add (tb_born w3)
  clear c4 HF3
  generalize w3.alloc _ = w4 at *
  generalize w3.heap.size = tb at *
  have T3 : Three [PH hb sm.M, MkA p hb sm.col sm.list, TbA tb Tb.new 0] 0 1 2 := ⟨⟨by simp, by simp, by decide⟩, by simp, by decide, by decide⟩
  have HT3 := Lib.hid T3
  have c5 := tadd_rep w4 T3 (m := sm) (t := Tb.new) (kk := 0) (b := tb) (hb := hb) (p := p) HF4.out 1 1 5 (by decide)
  rw [r3, r4] at c5
  clear r3 r4 T3
  go_wp2_with fail
  refine c5.mono ?_
  rintro e w5 ⟨rfl, f5⟩
  have c6 := tadd_rep w5 HT3.out (m := sm) (t := sT1) (kk := 0) f5 2 1 6 (by decide)
  rw [r5, r6] at c6
  clear c5 f5 r5 r6 HF4
  go_wp2_with fail
  refine c6.mono ?_
  rintro e w6 ⟨rfl, f6⟩
  have f6' : Fam w w6 (PT [PH hb sm.M, MkA p hb sm.col sm.list, TbA tb Tb.new 0] 0 1 2 hb p tb sm sT2) := PL.anyK HT3.out f6 (by decide +kernel) _ _
  have c7 := tbegin_rep w6 HT3.out f6' ssane_ok.2.2.2.2.1
  rw [r7] at c7
  clear c6 f6 f6' r7
  go_wp2_with fail
  refine c7.mono ?_
  rintro e w7 ⟨rfl, f7⟩
  have c8 := tfinish_rep w7 HT3.out (t := sT3) f7 ssane_ok.2.2.2.2.2 ssane_ok.2.2.1
  rw [ssane_fin] at c8
  clear c7 f7
  go_wp2_with fail
  refine c8.mono ?_
  rintro e w8 ⟨rfl, f8⟩
  obtain ⟨ev, qv, mo, ht⟩ := PL.tb HT3.out f8
  have HF8 := Lib.hid f8
  have c9 := ttarget_rep w8 ht 0
  rw [ssane_s.2.2.2.2.1] at c9
  clear c8 f8
  go_wp2_with fail
  refine c9.mono ?_
  rintro e w9 ⟨rfl, ho⟩
  have HO9 : Hid (Only [] w w9) := (HF8.out.only0 ho).only
  have ht9 := ht.only0 ho
  have c10 := tqueue_rep w9 ht9 (by rw [show (sS 4).1.q = [6] from ssane_s.2.2.2.2.2]; decide)
  clear c9 ho ht ht9 HF8
  rw [show (sS 4).1.q = [6] from ssane_s.2.2.2.2.2] at c10
  go_wp2_with fail
  refine c10.mono ?_
  rintro e w10 ⟨v, rfl, hi, ho⟩
  have hi2 := hi.alloc (.cells #[.int .i64 6] 3)
  have HO10 : Hid (Only [] w (w10.alloc (.cells #[.int .i64 6] 3))) := (HO9.out.trans ho (by simp)).alloc _
  have c11 := rints_same (w10.alloc (.cells #[.int .i64 6] 3)) v (.slice (some ⟨w10.heap.size, 0, none⟩) 1 1) [6] hi2.read (.inl ⟨w10.heap.size, 0, 1, rfl, fun i hi => by
    match i, hi with
    | 0, _ => exact (Row.new w10 3 [.int .i64 6]).cell 0 rfl⟩) (by decide)
  clear c10 hi hi2 ho HO9
  go_wp2_with fail
  refine c11.mono ?_
  rintro e w12 ⟨rfl, hd⟩
  have HO12 : Hid (Only [] w w12) := HO10.out.trans (hd.only []) (by simp)
  clear c11 hd HO10
  go_wp2_with fail
  exact hR.out _ _ ⟨rfl, HO12.out⟩
end Go.Proofs.YthflghdaejbdkaaGreat
namespace Go.Proofs.YthflghdaejbdkaaGreat
open Go.RowKit Go.Maps
set_option maxHeartbeats 12800000
set_option maxRecDepth 100000
set_option linter.unusedVariables false
theorem sizeSt : (Tryz.prog.info? 25).map (·.size) = some 2 := by kernel_rfl
theorem sizeOp : (Tryz.prog.info? 111).map (·.size) = some 4 := by kernel_rfl
theorem row2_cells {w : World} {b T : Nat} {x y : Value} (h : Row w b T [x, y]) : ∀ j v, [x, y][j]? = some v → w.cell? ⟨b, 0 + j, none⟩ = some v := fun j v hv => by rw [Nat.zero_add]; exact h.cell j hv
structure Scr (w : World) (la : Option Addr) (ln : Nat) (f : Nat → Nat → Int) (ra : Option Addr) (rn rc : Nat) (rts : List Int) : Prop where
  l : Recs 2 w la ln f
  len : rts.length = rn
  cap : rn ≤ rc
  wf : ∀ z ∈ rts, wfI z
  rd : Read w (.slice ra rn rc) rts
theorem Scr.only {w w' : World} {la : Option Addr} {ln : Nat} {f : Nat → Nat → Int} {ra : Option Addr} {rn rc : Nat} {rts : List Int} (h : Scr w la ln f ra rn rc rts) (ho : Only [] w w') : Scr w' la ln f ra rn rc rts :=
  ⟨⟨h.l.1, h.l.2.imp id fun ⟨b, o, e, hc⟩ => ⟨b, o, e, fun i hi j hj => ⟨ho.cell (hc i hi j hj).1 (by simp), (hc i hi j hj).2⟩⟩⟩, h.len, h.cap, h.wf, h.rd.only ho (by simp)⟩
theorem Recs.only {k : Nat} {w w' : World} {a : Option Addr} {n : Nat} {f : Nat → Nat → Int} (h : Recs k w a n f) (ho : Only [] w w') : Recs k w' a n f :=
  ⟨h.1, h.2.imp id fun ⟨b, o, e, hc⟩ => ⟨b, o, e, fun i hi j hj => ⟨ho.cell (hc i hi j hj).1 (by simp), (hc i hi j hj).2⟩⟩⟩
theorem lplay_any (w : World) (la : Option Addr) (ln lc : Nat) (f : Nat → Nat → Int) (ra : Option Addr) (rn rc : Nat) (rts : List Int) (hs : Scr w la ln f ra rn rc rts) (oa : Option Addr) (on oc : Nat) (g : Nat → Nat → Int) (ho : Recs 4 w oa on g) :
    Calls Tryz.prog 13 #[.agg #[.slice la ln lc, .slice ra rn rc], .slice oa on oc] w (fun e w' => ∃ bo hb q p r tb ub m t, e = .returned (.tuple #[.pointer (some ⟨bo, 0, none⟩), .bool true]) ∧ Mk.Ok m ∧ Tb.Good t m ∧ Fam w w' (G7 bo hb q p r tb ub m m t t [])) := by
  refine calls_abs fun R hR => ?_
  have ho1 : Only [] w (w.alloc (.cells #[.slice la ln lc, .slice ra rn rc] 25)) := (Only.refl [] w).alloc _
  have HRW : Hid (Row (w.alloc (.cells #[.slice la ln lc, .slice ra rn rc] 25)) w.heap.size 25 [.slice la ln lc, .slice ra rn rc]) := Row.new w _ _
  have HO1 := Lib.hid ho1
  have HS := Lib.hid (hs.only ho1)
  have HD := Lib.hid (Recs.only ho ho1)
  clear hs ho ho1
  go_enter Tryz.func13, Tryz.ntmps13
  go_upto_region 1 with fail
  generalize w.alloc (.cells #[.slice la ln lc, .slice ra rn rc] 25) = w1 at *
  generalize w.heap.size = ws at *
  have c1 := lbegin_any w1 la ln lc f HS.out.l ra rn rc rts HS.out.len HS.out.cap HS.out.wf HS.out.rd
  go_wp2_with (refine wpList_load_agg rfl 25 _ rfl ws 0 rfl [.slice la ln lc, .slice ra rn rc] _ Tryz.underlying25 rfl sizeSt (row2_cells HRW.out) ?_)
  refine c1.mono ?_
  rintro e w2 ⟨bo, hb, q, p, r, tb, ub, M, rfl, hM, hf⟩
  have HF := Lib.hid hf
  have HM : Hid ((Mk.new M rts).Ok) := Mk.new_ok hM rts
  clear c1 hf hM
  go_wp2_with fail
  go_loopw [7, 8] (fun ov iv wr => ∃ (i : Nat) (p r : Nat) (m : Mk) (t : Tb), i ≤ 60 ∧ i ≤ on ∧ ov = .bool true ∧ iv = .int .i64 i ∧ Mk.Ok m ∧ Tb.Good t m ∧ Fam w1 wr (G7 bo hb q p r tb ub m m t t [])) (fun _ iv _ => 60 - (intOf iv).toNat)
  case atStart => exact ⟨0, p, r, _, _, by omega, by omega, rfl, rfl, HM.out, Tb.Good.new, HF.out⟩
  case round => as_aux_lemma =>
    clear HF HM
    obtain ⟨i, p, r, m, t, hi60, hion, rfl, rfl, hm, hg, hf⟩ := hrel
    have HF := Lib.hid hf
    have HM := Lib.hid hm
    have HG := Lib.hid hg
    clear hf hm hg
    by_cases hlt : i < on ∧ i < 60
    · as_aux_lemma =>
      obtain ⟨hlt1, hlt2⟩ := hlt
      have hl1 : (i : Int) < (on : Int) := by omega
      have hl2 : (i : Int) < 60 := by omega
      have hi0 : (0 : Int) ≤ (i : Int) := by omega
      rcases HD.out.2 with h0 | ⟨ob, oo, rfl, hcell⟩
      · omega
      have k0 := hcell i hlt1 0 (by omega)
      have k1 := hcell i hlt1 1 (by omega)
      have k2 := hcell i hlt1 2 (by omega)
      have k3 := hcell i hlt1 3 (by omega)
      rw [← Nat.add_assoc] at k0 k1 k2 k3
      rw [Nat.add_zero] at k0
      obtain ⟨k0, _⟩ := k0
      obtain ⟨k1, wa⟩ := k1
      obtain ⟨k2, wb⟩ := k2
      obtain ⟨k3, wc⟩ := k3
      have K := Lib.hid (And.intro k0 (And.intro k1 (And.intro k2 k3)))
      have HC : Hid (Calls Tryz.prog 67 #[.pointer (some ⟨bo, 0, none⟩), .agg #[.int .i64 (g i 0), .int .i64 (g i 1), .int .i64 (g i 2), .int .i64 (g i 3)], .agg #[.slice la ln lc, .slice ra rn rc]] wr.drew (TDid w1 bo hb q tb ub [])) := tdo_any HF.out.drew HM.out HG.out _ _ _ _ wa wb wc la ln lc ra rn rc rts HS.out.len HS.out.cap HS.out.wf HS.out.rd
      have d0 := HF.out.cell k0
      have d1 := HF.out.cell k1
      have d2 := HF.out.cell k2
      have d3 := HF.out.cell k3
      have s0 := HF.out.cell (HRW.out.cell 0 rfl)
      have s1 := HF.out.cell (HRW.out.cell 1 rfl)
      have b4 := (G7.row HF.out).cell 4 rfl
      have b5 := (G7.row HF.out).cell 5 rfl
      clear hcell k0 k1 k2 k3 wa wb wc
      generalize g i 0 = g0 at *
      generalize g i 1 = g1 at *
      generalize g i 2 = g2 at *
      generalize g i 3 = g3 at *
      go_wp2_with fail
      go_region_held3 (fun w' => w'.cell? ⟨ob, oo + i * 4, none⟩ = some (.int .i64 g0) ∧ w'.cell? ⟨ob, oo + i * 4 + 1, none⟩ = some (.int .i64 g1) ∧ w'.cell? ⟨ob, oo + i * 4 + 2, none⟩ = some (.int .i64 g2) ∧ w'.cell? ⟨ob, oo + i * 4 + 3, none⟩ = some (.int .i64 g3) ∧ w'.cell? ⟨ws, 0, none⟩ = some (.slice la ln lc) ∧ w'.cell? ⟨ws, 1, none⟩ = some (.slice ra rn rc) ∧ w'.cell? ⟨bo, 4, none⟩ = some (.pointer (some ⟨tb, 0, none⟩)) ∧ w'.cell? ⟨bo, 5, none⟩ = some (.pointer (some ⟨ub, 0, none⟩)))
        (first | (exact ⟨d0, d1, d2, d3, s0, s1, b4, b5⟩) | (exact ⟨f3.cell K.out.1, f3.cell K.out.2.1, f3.cell K.out.2.2.1, f3.cell K.out.2.2.2, f3.cell (HRW.out.cell 0 rfl), f3.cell (HRW.out.cell 1 rfl), (G7.row f3).cell 4 rfl, (G7.row f3).cell 5 rfl⟩))
        (first
          | (go_at_call 67; refine HC.out.mono ?_; rintro e w3 ⟨rfl, p', r', m', t', hm3, hg3, f3⟩; obtain ⟨_, _, _, ht3⟩ := PL.tb G7.tp (kk := t'.ents.length) (k := 4) (i := 0) (j := 2) (hb := hb) (p := p') (b := tb) (m := m') (l := G7 bo hb q p' r' tb ub m' m' t' t' []) f3; obtain ⟨_, _, _, _, _, hq3⟩ := QL.tr G7.tr (k := 5) (i := 1) (j := 3) (q := q) (r := r') (b := ub) (m := m') (t := t') (l := G7 bo hb q p' r' tb ub m' m' t' t' []) f3; have hph1 := tphase_rep w3 ht3; have hph2 := rtphase_rep w3 hq3)
          | (go_at_call 22; refine hph1.mono ?_; rintro e _ ⟨rfl, rfl⟩)
          | (go_at_call 14; refine hph2.mono ?_; rintro e _ ⟨rfl, rfl⟩))
      have HF3 := Lib.hid f3
      have HM3 := Lib.hid hm3
      have HG3 := Lib.hid hg3
      clear f3 hm3 hg3 ht3 hq3 hph1 hph2 d0 d1 d2 d3 s0 s1 b4 b5 HC
      go_wp2_with fail
      exact ⟨⟨i + 1, p', r', m', t', by omega, by omega, rfl, by go_num, HM3.out, HG3.out, HF3.out⟩, by simp [intOf]; omega⟩
    · as_aux_lemma =>
      have HE := Lib.hid (HF.out.base HO1.out)
      have hsplit : (¬ (i : Int) < (on : Int)) ∨ ((i : Int) < (on : Int) ∧ ¬ (i : Int) < 60) := by omega
      clear HF hlt
      rcases hsplit with h1 | ⟨h1, h2⟩
      all_goals (
        go_wp2_with fail
        exact hR.out _ _ ⟨bo, hb, q, p, r, tb, ub, m, t, rfl, HM.out, HG.out, HE.out⟩)
end Go.Proofs.YthflghdaejbdkaaGreat
namespace Go.Proofs.YthflghdaejbdkaaGreat
open Go.RowKit Go.Maps
set_option maxHeartbeats 12800000
set_option maxRecDepth 100000
set_option linter.unusedVariables false
theorem G7.tbat {bo hb q p r tb ub : Nat} {m1 m2 : Mk} {t1 t2 : Tb} {tl : List Asn} {w0 w : World} (h : Fam w0 w (G7 bo hb q p r tb ub m1 m2 t1 t2 tl)) : ∃ ev qv mo, TbAt w tb ev qv mo t1 t1.ents.length := PL.tb (G7.TP bo hb q p r tb ub m1 m2 t1 t2 tl) (m := m1) (hb := hb) (p := p) h
theorem G7.trat {bo hb q p r tb ub : Nat} {m1 m2 : Mk} {t1 t2 : Tb} {tl : List Asn} {w0 w : World} (h : Fam w0 w (G7 bo hb q p r tb ub m1 m2 t1 t2 tl)) : ∃ ev qv wv nx wl, TrAt w ub ev qv wv nx wl t2 := QL.tr (G7.TR bo hb q p r tb ub m1 m2 t1 t2 tl) (m := m2) (q := q) (r := r) h
theorem Mk.white_len (m : Mk) : m.white.length ≤ 192 := by
  have h1 := List.length_filter_le (fun x => decide (m.col x = 0)) m.M.handles
  have h2 : m.M.handles.length ≤ 192 := Hp.handlesN_len m.M 192
  unfold Mk.white; omega
end Go.Proofs.YthflghdaejbdkaaGreat
namespace Go.Proofs.YthflghdaejbdkaaGreat
open Go.RowKit Go.Maps
set_option maxHeartbeats 12800000
set_option maxRecDepth 100000
set_option linter.unusedVariables false
theorem scr_of {w : World} {la : Option Addr} {ln : Nat} {f : Nat → Nat → Int} {ra : Option Addr} {rn rc : Nat} {g : Nat → Int} (h1 : Recs 2 w la ln f) (h2 : Numk w ra rn rc g) : Scr w la ln f ra rn rc (listF rn g) :=
  ⟨h1, by simp [listF], h2.2, numsWf h2.1, numsRead h2.1⟩
theorem Tb.take_at {t : Tb} {i : Nat} (hi : i < t.q.length) : (⟨t.ents, t.q.drop i, t.ph, t.nx, t.fd⟩ : Tb).take = (gI t.q i, 0, ⟨t.ents, t.q.drop (i + 1), t.ph, t.nx, t.fd⟩) := by
  unfold Tb.take
  show (match t.q.drop i with | [] => _ | x :: r => _) = _
  rw [List.drop_eq_getElem_cons hi]
  simp [gI, List.getElem?_eq_getElem hi]
end Go.Proofs.YthflghdaejbdkaaGreat
