/- Lemmas of this claim. -/
import Derived.Test.YthflghdaejbdkaaKTbKeeps
namespace Go.Proofs.Ythflghdaejbdkaa
open Go.RowKit Go.Maps
set_option maxHeartbeats 12800000
set_option maxRecDepth 100000
set_option linter.unusedVariables false
theorem walk_RefsKeeps (la : Option Addr) (ln lc : Nat) (f : Nat → Nat → Int) (ra : Option Addr) (rn rc : Nat) (g : Nat → Int) (xa : Option Addr) (xn xc : Nat) (fx : Nat → Nat → Int) (w : World) (hl : Recs 2 w la ln f) (hr : Numk w ra rn rc g) (hx : Recs 2 w xa xn fx) :
    Calls Try.prog 3 #[.agg #[.slice la ln lc, .slice ra rn rc], .slice xa xn xc] w fun e w' => e = .returned (.bool true) ∧ Below w.heap.size w w' := by
  refine calls_abs fun R hR => ?_
  have ho1 : Only [] w (w.alloc (.cells #[.slice la ln lc, .slice ra rn rc] 25)) := (Only.refl [] w).alloc _
  have HRW : Hid (Row (w.alloc (.cells #[.slice la ln lc, .slice ra rn rc] 25)) w.heap.size 25 [.slice la ln lc, .slice ra rn rc]) := Row.new w _ _
  have HO1 := Lib.hid ho1
  have HS := Lib.hid (Recs.only hl ho1)
  have HX := Lib.hid (Recs.only hx ho1)
  obtain ⟨rts, hrts⟩ : ∃ z, z = listF rn g := ⟨_, rfl⟩
  have HRL : Hid (rts.length = rn) := by rw [hrts]; show (listF rn g).length = rn; simp [listF]
  have HRC : Hid (rn ≤ rc) := hr.2
  have HRF : Hid (∀ z ∈ rts, wfI z) := by rw [hrts]; exact numsWf hr.1
  have HRD : Hid (Read (w.alloc (.cells #[.slice la ln lc, .slice ra rn rc] 25)) (.slice ra rn rc) rts) := by rw [hrts]; exact (show Read w (.slice ra rn rc) (listF rn g) from numsRead hr.1).only ho1 (by simp)
  have HFIN : Hid (∀ w', Only [] w w' → Below w.heap.size w w') := fun w' h => h.bel
  clear hl hr hx ho1 hrts
  go_enter Try.func3, Try.ntmps3
  go_upto_region 1 with fail
  generalize w.alloc (.cells #[.slice la ln lc, .slice ra rn rc] 25) = w1 at *
  generalize w.heap.size = ws at *
  have c1 := lbegin_any w1 la ln lc f HS.out ra rn rc rts HRL.out HRC.out HRF.out HRD.out
  go_wp2_with (refine wpList_load_agg rfl 25 _ rfl ws 0 rfl [.slice la ln lc, .slice ra rn rc] _ Try.underlying25 rfl sizeSt (row2_cells HRW.out) ?_)
  refine c1.mono ?_
  rintro e w2 ⟨bo, hb, q, p, r, tb, ub, M, rfl, hM, hf⟩
  obtain ⟨LIVE, hl192, hmem, hreach, hri⟩ := live_of hM rts
  have HF := Lib.hid hf
  have HMO : Hid ((Mk.new M rts).Ok) := Mk.new_ok hM rts
  have HMM : Hid ((Mk.new M rts).M = M) := Mk.new_M M rts
  have HMF := Lib.hid hM
  have HLV := Lib.hid hmem
  have HRE := Lib.hid hreach
  have HRI := Lib.hid hri
  have s1 := hf.only.cell (HRW.out.cell 1 rfl) (by simp)
  have HRD2 := Lib.hid (HRD.out.only hf.only (by simp))
  clear c1 hf hM hmem hreach hri HS HRW HRD
  go_upto_if 36 with fail
  go_cut [7] from 34 (fun s7 wx => s7 = .slice ra (rts.take 20).length rc ∧ wx = w2)
  case first => as_aux_lemma =>
    have h1 := HRC.out
    have h2 := HRL.out
    by_cases h20 : 20 < rn
    · have hlen : (rts.take 20).length = 20 := by rw [List.length_take]; omega
      have HLN := Lib.hid hlen
      have h201 : (20 : Int) < (rn : Int) := by omega
      have h202 : (20 : Int) ≤ (rc : Int) := by omega
      clear hlen
      go_wp2_with fail
      go_meet
      exact ⟨by rw [HLN.out], rfl⟩
    · have hlen : (rts.take 20).length = rn := by rw [List.length_take]; omega
      have HLN := Lib.hid hlen
      have h201 : ¬ (20 : Int) < (rn : Int) := by omega
      clear hlen
      go_wp2_with fail
      go_meet
      exact ⟨by rw [HLN.out], rfl⟩
  case rest => as_aux_lemma =>
    obtain ⟨rfl, hwc⟩ := hcut
    have hwc2 := hwc.symm
    subst hwc2
    obtain ⟨n20, hn20⟩ : ∃ z, z = (rts.take 20).length := ⟨_, rfl⟩
    have hn20' : n20 ≤ 20 := by rw [hn20, List.length_take]; omega
    have hn20c : n20 ≤ rn := by rw [hn20, List.length_take, HRL.out]; omega
    rw [← hn20]
    have HN20 := Lib.hid hn20
    obtain ⟨hk, L, X, hp⟩ := HF.out.gh 1 rfl
    rw [HMM.out] at hp hk
    have cr := greach_rep w2 hp hk ra n20 rc (rts.take 20) hn20.symm (by
      have := read_take HRD2.out (k := n20) hn20c
      have e : rts.take n20 = rts.take 20 := by
        rw [hn20, List.length_take]
        by_cases h : 20 ≤ rts.length
        · rw [Nat.min_eq_left h]
        · rw [Nat.min_eq_right (by omega), List.take_length, List.take_of_length_le (by omega)]
      rwa [e] at this) (by omega)
    have b1 := (G7.row HF.out).cell 1 rfl
    have HN2 := Lib.hid hn20'
    clear hn20 hk hp s1 hn20'
    go_upto_if 49 with fail
    refine cr.mono ?_
    rintro e w3 ⟨lv, rfl, hi3, ho3⟩
    have hr1 : (M.reach (rts.take 20)).1 = LIVE := by
      rcases HRE.out with h | ⟨h1, h⟩
      · rw [h]
      · rw [h, h1]
    have HR2 : Hid ((M.reach (rts.take 20)).2 = 0 ∨ ((M.reach (rts.take 20)).2 = 3 ∧ LIVE = [])) := by
      rcases HRE.out with h | ⟨h1, h⟩
      · exact .inl (by rw [h])
      · exact .inr ⟨by rw [h], h1⟩
    have hi4 : Ints w3 w2.heap.size lv LIVE := by rw [← hr1]; exact hi3
    obtain ⟨a4, c4, hlv⟩ := hi4.len
    subst hlv
    have HI4 := Lib.hid hi4
    have HO3 := Lib.hid ho3
    clear cr hi3 ho3 b1 hr1 hi4 HRE
    generalize (M.reach (rts.take 20)).2 = er at *
    go_upto_if 49 with fail
    go_cut [8] from 34 (fun s8 wx => ∃ a8 c8, s8 = .slice a8 LIVE.length c8 ∧ Ints wx w2.heap.size (.slice a8 LIVE.length c8) LIVE ∧ Only [] w2 wx)
    case first => as_aux_lemma =>
      rcases HR2.out with he | ⟨he, hnil⟩
      · subst he
        clear HR2
        go_wp2_with fail
        go_meet
        exact ⟨_, _, rfl, HI4.out, HO3.out⟩
      · subst he
        have HNIL := Lib.hid hnil
        clear HR2 hnil
        go_wp2_with fail
        go_meet
        exact ⟨none, 0, by rw [HNIL.out]; rfl, by rw [HNIL.out]; exact Ints.nil _ _, HO3.out⟩
    case rest => as_aux_lemma =>
      obtain ⟨a8, c8, rfl, hi8, ho8⟩ := hcut
      have HF8 : Hid (Fam w1 wc (G7 bo hb q p r tb ub (Mk.new M rts) (Mk.new M rts) Tb.new Tb.new [IntsA (.slice a8 LIVE.length c8) LIVE])) := HF.out.addInts ho8 hi8
      have c3 := mrun_rep wc (G7.TP bo hb q p r tb ub (Mk.new M rts) (Mk.new M rts) Tb.new Tb.new [IntsA (.slice a8 LIVE.length c8) LIVE]).two HF8.out HMO.out
      have hM1 : (Mk.new M rts).run.M = M := ((HMO.out.steps (Mk.new M rts).runs).2).trans HMM.out
      have HM1 := Lib.hid hM1
      have HML : Hid ((Mk.new M rts).run.list = []) := (Mk.runs_spec HMO.out).1
      have HMO1 : Hid (Mk.Ok (Mk.new M rts).run) := (HMO.out.steps (Mk.new M rts).runs).1
      have HRI1 : Hid (RInvM (M.rts rts) (Mk.new M rts).run) := RInvM.steps HMO.out HRI.out _
      have hz8 : a8 = none → LIVE.length = 0 ∧ c8 = 0 := by
        rcases hi8.form with ⟨h1, h2⟩ | ⟨g8, cap8, h1, _⟩
        · simp only [Value.slice.injEq] at h1
          exact fun _ => ⟨h1.2.1, h1.2.2⟩
        · simp only [Value.slice.injEq] at h1
          intro h; rw [h1.1] at h; cases h
      have b2 := (G7.row HF8.out).cell 2 rfl
      have HZ8 := Lib.hid hz8
      have HL192 := Lib.hid hl192
      clear HI4 HO3 HR2 hi8 ho8 HF HMO HRI hM1 hz8 hl192 HRD2 HN20 HN2
      generalize (Mk.new M rts).runs = rns at *
      generalize (Mk.new M rts).run = m1 at *
      generalize Mk.new M rts = m0 at *
      go_wp2_with fail
      refine c3.mono ?_
      rintro e w4 ⟨rfl, f4⟩
      have HF4 : Hid (Fam w1 w4 (G7 bo hb q p r tb ub m1 m0 Tb.new Tb.new [IntsA (.slice a8 LIVE.length c8) LIVE])) := f4
      have HLI : Hid (Ints w4 0 (.slice a8 LIVE.length c8) LIVE) := HF4.out.ints 7 rfl
      have HN8 : Hid (∀ ad, a8 = some ad → ∀ j u, LIVE[j]? = some u → (w4.alloc (.cells #[] 3)).cell? (ad.add j) = some (.int .i64 u)) := by
        intro ad he j u hu
        have hj := (List.getElem?_eq_some_iff.1 hu).1
        obtain ⟨vb, vo, hv, hc⟩ := HLI.out.read.at hj
        rw [he] at hv
        cases hv
        rw [addr_add]
        have hc2 := ((Only.refl [] w4).alloc (.cells #[] 3)).cell hc (by simp)
        rw [hc2]
        unfold gI
        rw [hu]; rfl
      clear c3 f4 HF8 b2
      go_wp2_with (at_builtin; refine append_intsO rfl _ _ rfl w4.heap.size _ [] rfl (Ints.made w4) a8 LIVE.length c8 LIVE rfl HZ8.out rfl HN8.out ?c1 ?c2 ?c3)
      case c1 => have := HL192.out; simp; omega
      case c2 => simp
      case c3 =>
        intro kv w6 hv6 ho6 hb6
        have hO6 : Only [] w4 w6 := ((Only.refl [] w4).alloc (.cells #[] 3)).trans ho6 (fun z hz => .inr (by simp [Value.ownBlock] at hz; omega))
        have HF6 : Hid (Fam w1 w6 (G7 bo hb q p r tb ub m1 m0 Tb.new Tb.new [IntsA (.slice a8 LIVE.length c8) LIVE, IntsA kv (LIVE ++ finT Tb.new.ents), EnA (.slice none 0 0) Tb.new.ents])) := by
          have h1 := (HF4.out.addInts hO6 hv6).addEn
          have e1 : LIVE ++ finT Tb.new.ents = [] ++ LIVE := by
            show LIVE ++ [] = LIVE
            rw [List.append_nil]
          rw [e1]
          exact h1
        have HZ : Hid ((Tb.new).Good m1) := Tb.Good.new
        clear hv6 ho6 hb6 hO6 HN8 HLI HF4 HZ8
        go_upto_region 14 with fail
        go_wp2_with fail
        go_loopw [10, 11, 12] (fun ev kv iv wr => ∃ (i : Nat) (t : Tb), i ≤ 20 ∧ i ≤ xn ∧ iv = .int .i64 i ∧ t.Good m1 ∧ t.ph = 0 ∧ t.q = [] ∧ t.ents.length ≤ i ∧ Hid (∀ j, j < t.ents.length → (eAt t.ents j).tgt ≠ 0) ∧ Fam w1 wr (G7 bo hb q p r tb ub m1 m0 t Tb.new [IntsA (.slice a8 LIVE.length c8) LIVE, IntsA kv (LIVE ++ finT t.ents), EnA ev t.ents])) (fun _ _ iv _ => 20 - (intOf iv).toNat)
        case atStart => exact ⟨0, Tb.new, by omega, by omega, rfl, HZ.out, rfl, rfl, Nat.le_refl _, fun j hj => absurd hj (Nat.not_lt_zero _), HF6.out⟩
        case round => as_aux_lemma =>
          clear HF6 HZ
          obtain ⟨i, t, hi20, hin, rfl, hg, hp, hq, hle, HNZ, hf⟩ := hrel
          have HF := Lib.hid hf
          have HG := Lib.hid hg
          have HP := Lib.hid hp
          have HQ := Lib.hid hq
          have HLE := Lib.hid hle
          clear hf hg hp hq hle
          by_cases hlt : i < xn ∧ i < 20
          · as_aux_lemma =>
            obtain ⟨hlt1, hlt2⟩ := hlt
            have hl1 : (i : Int) < (xn : Int) := by omega
            have hl2 : (i : Int) < 20 := by omega
            have hi0 : (0 : Int) ≤ (i : Int) := by omega
            rcases HX.out.2 with h0 | ⟨ob, oo, rfl, hcell⟩
            · omega
            have k0 := hcell i hlt1 0 (by omega)
            have k1 := hcell i hlt1 1 (by omega)
            rw [← Nat.add_assoc] at k0 k1
            rw [Nat.add_zero] at k0
            obtain ⟨k0, _⟩ := k0
            obtain ⟨k1, wb⟩ := k1
            have K1 := Lib.hid k1
            have WB : Hid (wfI (fx i 1)) := wb
            have d0 := HF.out.cell k0
            have d1 := HF.out.cell k1
            have hA := and1023 (fx i 0)
            clear hcell k0 k1 wb HX
            generalize fx i 0 = A at *
            generalize fx i 1 = B at *
            go_upto_region 17 with fail
            have hk1 : 1 ≤ 1 + bits BinOp.and IntKind.i64 A 1023 % 3 ∧ 1 + bits BinOp.and IntKind.i64 A 1023 % 3 ≤ 3 := by omega
            generalize 1 + bits BinOp.and IntKind.i64 A 1023 % 3 = kd at *
            clear hA
            have b1 := (G7.row HF.out).cell 1 rfl
            obtain ⟨hk, L, X, hgr⟩ := HF.out.drew.gh 1 rfl
            have hgi := gin_rep wr.drew hgr hk B
            rw [HMM.out] at hgi
            have HGI := Lib.hid hgi
            clear hk hgr hgi d0
            by_cases hus : (M.ob B).isSome = true
            rotate_left
            · as_aux_lemma =>
              have hus2 : (M.ob B).isSome = false := by simpa using hus
              rw [hus2] at HGI
              go_region_held3 (fun w' => w'.cell? ⟨bo, 1, none⟩ = some (.pointer (some ⟨q, 0, none⟩)) ∧ w'.cell? ⟨ob, oo + i * 2 + 1, none⟩ = some (.int .i64 B))
                (exact ⟨b1, d1⟩)
                (first | (go_at_call 7; refine HGI.out.mono ?_; rintro e _ ⟨rfl, rfl⟩))
              go_wp2_with fail
              exact ⟨⟨i + 1, t, by omega, by omega, by go_num, HG.out, HP.out, HQ.out, by have := HLE.out; omega, HNZ, HF.out.drew⟩, by simp [intOf]; omega⟩
            · as_aux_lemma =>
              rw [hus] at HGI
              go_region_held3 (fun w' => w'.cell? ⟨bo, 1, none⟩ = some (.pointer (some ⟨q, 0, none⟩)) ∧ w'.cell? ⟨ob, oo + i * 2 + 1, none⟩ = some (.int .i64 B))
                (exact ⟨b1, d1⟩)
                (first | (go_at_call 7; refine HGI.out.mono ?_; rintro e _ ⟨rfl, rfl⟩))
              have HF5 := Lib.hid HF.out.drew
              clear HGI b1 HF d1
              generalize wr.drew = wx at *
              have hadd : t.add m1 kd B (i : Int) = ((t.ents.length : Int), 0, ⟨t.ents ++ [⟨kd, B, (i : Int)⟩], t.q, t.ph, t.nx, t.fd⟩) := by
                unfold Tb.add
                rw [if_neg (by omega), if_neg (by rw [HP.out]; simp), if_neg (by rw [HM1.out, hus]; simp), if_neg (by have := HLE.out; omega)]
              have HGA : Hid (Tb.Good (t.add m1 kd B (i : Int)).2.2 m1) := HG.out.add kd B i
              have ha := taddT wx.drew HF5.out.drew kd B (i : Int) WB.out
              rw [hadd] at ha HGA
              have hB1 := (HMF.out.ok.inR hus).1
              have HNZ2 : Hid (∀ j, j < (t.ents ++ [(⟨kd, B, (i : Int)⟩ : En)]).length → (eAt (t.ents ++ [(⟨kd, B, (i : Int)⟩ : En)]) j).tgt ≠ 0) := fun j hj => by
                rw [List.length_append] at hj
                by_cases e : j < t.ents.length
                · rw [eAt_appL e]; exact HNZ.out j e
                · have e2 : j = t.ents.length := by simp at hj; omega
                  rw [e2, eAt_last]
                  show B ≠ 0
                  omega
              have HLE2 : Hid ((t.ents ++ [(⟨kd, B, (i : Int)⟩ : En)]).length ≤ i + 1) := by
                show _ ≤ _
                rw [List.length_append]; have := HLE.out; simp; omega
              have HPA : Hid ((⟨t.ents ++ [⟨kd, B, (i : Int)⟩], t.q, t.ph, t.nx, t.fd⟩ : Tb).ph = 0) := HP.out
              have HQA : Hid ((⟨t.ents ++ [⟨kd, B, (i : Int)⟩], t.q, t.ph, t.nx, t.fd⟩ : Tb).q = []) := HQ.out
              have hea : (⟨t.ents ++ [⟨kd, B, (i : Int)⟩], t.q, t.ph, t.nx, t.fd⟩ : Tb).ents = t.ents ++ [⟨kd, B, (i : Int)⟩] := rfl
              generalize (⟨t.ents ++ [⟨kd, B, (i : Int)⟩], t.q, t.ph, t.nx, t.fd⟩ : Tb) = t2 at *
              have HEA := Lib.hid hea
              have b2 := (G7.row HF5.out).cell 2 rfl
              have b4 := (G7.row HF5.out).cell 4 rfl
              have d1 := HF5.out.cell K1.out
              have HA := Lib.hid ha
              obtain ⟨ea, ec, hev⟩ := (HF5.out.ents 9 rfl).len
              subst hev
              have HTL : Hid (t.ents.length ≤ 1000000) := by have := HLE.out; show _ ≤ _; omega
              clear hadd hea ha
              go_upto_region 18 with fail
              go_region_held3 (fun w' => w'.cell? ⟨bo, 4, none⟩ = some (.pointer (some ⟨tb, 0, none⟩)) ∧ w'.cell? ⟨bo, 2, none⟩ = some (.pointer (some ⟨p, 0, none⟩)) ∧ w'.cell? ⟨ob, oo + i * 2 + 1, none⟩ = some (.int .i64 B))
                (first | (exact ⟨b4, b2, d1⟩) | (exact ⟨(G7.row f7).cell 4 rfl, (G7.row f7).cell 2 rfl, f7.cell K1.out⟩))
                (first | (go_at_call 8; refine HA.out.mono ?_; rintro e w7 ⟨rfl, f7⟩))
              have HF7 := Lib.hid f7
              have d1' := HF7.out.cell K1.out
              clear f7 HA HF5 b2 b4 d1
              have HY : Hid (Row (w7.alloc (.cells #[.int .i64 kd, .int .i64 B, .int .i64 (i : Int)] 47)) w7.heap.size 47 (enC ⟨kd, B, (i : Int)⟩)) := Row.new w7 _ _
              have HF7a := Lib.hid (HF7.out.alloc (.cells #[.int .i64 kd, .int .i64 B, .int .i64 (i : Int)] 47))
              go_wp2_with (at_builtin; refine append_re1 rfl _ _ rfl _ t.ents rfl (HF7a.out.ents 9 rfl) _ _ ⟨kd, B, (i : Int)⟩ rfl HY.out HTL.out ?_)
              intro v8 w8 he8 ho8 hb8
              have HF8 : Hid (Fam w1 w8 (G7 bo hb q p r tb ub m1 m0 t2 Tb.new [IntsA (.slice a8 LIVE.length c8) LIVE, IntsA u11 (LIVE ++ finT t.ents), EnA v8 t2.ents])) := by
                have h := HF7a.out.turnEnts 9 rfl he8 ho8 (by rw [World.size_alloc]; exact hb8)
                rw [← HEA.out] at h
                exact h
              have HFT : finT t2.ents = finT t.ents ++ (if kd = 2 then [B] else []) := by rw [HEA.out]; exact finT_app _ _
              have HTF := Lib.hid (finT_len t.ents)
              have d8 := HF8.out.cell K1.out
              clear he8 ho8 hb8 HF7a HF7 HY d1'
              by_cases hk2 : kd = 2
              · as_aux_lemma =>
                subst hk2
                rw [if_pos rfl] at HFT
                have HFT2 := Lib.hid HFT
                clear HFT
                go_wp2_with (at_builtin; refine append_int1 rfl _ _ rfl 0 _ (LIVE ++ finT t.ents) rfl ((HF8.out.alloc _).ints 8 rfl) w8.heap.size B rfl ?c1 ?c2 ?c3 ?c4)
                case c1 => exact (Row.new w8 _ [_]).cell 0 rfl
                case c2 => have := HTF.out; have := HL192.out; have := HTL.out; rw [List.length_append]; omega
                case c3 => exact Nat.zero_le _
                case c4 =>
                  intro v9 w9 hi9 ho9 hb9
                  have HF9 : Hid (Fam w1 w9 (G7 bo hb q p r tb ub m1 m0 t2 Tb.new [IntsA (.slice a8 LIVE.length c8) LIVE, IntsA v9 (LIVE ++ finT t2.ents), EnA v8 t2.ents])) := by
                    have h := (HF8.out.alloc _).turnInts 8 rfl hi9 ho9 (by rw [World.size_alloc]; exact hb9)
                    rw [← HFT2.out] at h
                    exact h
                  clear hi9 ho9 hb9 HF8 d8
                  go_wp2_with fail
                  exact ⟨⟨i + 1, t2, by omega, by omega, by go_num, HGA.out, HPA.out, HQA.out, by have := HLE2.out; rw [← HEA.out] at this; exact this, by have := HNZ2; rw [← HEA.out] at this; exact this, HF9.out⟩, by simp [intOf]; omega⟩
              · as_aux_lemma =>
                have hkb : (kd == 2) = false := by simpa using hk2
                rw [if_neg hk2, List.append_nil] at HFT
                rw [← HFT] at HF8
                clear HFT
                go_wp2_with fail
                exact ⟨⟨i + 1, t2, by omega, by omega, by go_num, HGA.out, HPA.out, HQA.out, by have := HLE2.out; rw [← HEA.out] at this; exact this, by have := HNZ2; rw [← HEA.out] at this; exact this, HF8.out⟩, by simp [intOf]; omega⟩
          · as_aux_lemma =>
            obtain ⟨ea, ec, hev⟩ := (HF.out.ents 9 rfl).len
            subst hev
            have hki := HF.out.ints 8 rfl
            obtain ⟨ka, kc, hkv⟩ := hki.len
            obtain ⟨nkl, hnkl⟩ : ∃ z, z = (LIVE ++ finT t.ents).length := ⟨_, rfl⟩
            rw [← hnkl] at hkv
            subst hkv
            obtain ⟨e1, e2, e3, ce⟩ := cycle_end HG.out.b HMO1.out HML.out HP.out
            have HB := Lib.hid HG.out.b
            have hnb := keep_nb HMF.out HM1.out HG.out.b HLV.out HNZ.out
            have HKT : Hid (∀ k, k < t.ents.length → (eAt ((t.begin m1).2.finish m1).2.2.1.ents k).tgt = if (if (eAt t.ents k).kind = 3 then decide ((eAt t.ents k).tgt ∈ M.reachL (LIVE ++ finT t.ents)) else decide ((eAt t.ents k).tgt ∈ LIVE)) = true then (eAt t.ents k).tgt else 0) := fun k hk => keep_tgt ce HMF.out HM1.out HG.out.b HMO1.out HML.out HRI1.out HLV.out HNZ.out hk
            obtain ⟨ALL, hALL⟩ : ∃ z, z = M.reachL (LIVE ++ finT t.ents) := ⟨_, rfl⟩
            rw [← hALL] at HKT
            have HAL : Hid (ALL.length ≤ 192) := by rw [hALL]; exact Hp.reachL_len M (LIVE ++ finT t.ents)
            obtain ⟨hk, L, X, hgr⟩ := HF.out.gh 1 rfl
            rw [HMM.out] at hk hgr
            have hkl : (LIVE ++ finT t.ents).length ≤ 1000 := by
              have h1 := HL192.out
              have h2 := finT_len t.ents
              have h3 := HLE.out
              rw [List.length_append]; omega
            have cr := greach_rep wr hgr hk ka nkl kc (LIVE ++ finT t.ents) hnkl.symm hki.read (by omega)
            have hre : M.reach (LIVE ++ finT t.ents) = (ALL, 0) := by unfold Hp.reach; rw [if_neg hnb, hALL]
            rw [hre] at cr
            have b1 := (G7.row HF.out).cell 1 rfl
            have HGD := Lib.hid HG.out
            have HBG : Hid ((t.begin m1).2.Good m1) := HG.out.begin HMO1.out.hf.ok
            have HGF : Hid (Tb.Good ((t.begin m1).2.finish m1).2.2.1 ((t.begin m1).2.finish m1).2.2.2) := (HBG.out.finish HMO1.out).1
            have HCE := Lib.hid ce
            have HE1 := Lib.hid e1
            have HE3 := Lib.hid e3
            have hsplit : (¬ (i : Int) < (xn : Int)) ∨ ((i : Int) < (xn : Int) ∧ ¬ (i : Int) < 20) := by omega
            clear hnkl hk hgr hkl hre hALL hnb hki ce e1 e2 e3 hlt HRI1 HML HX HRF HRL HRC
            have CR := Lib.hid cr
            clear cr
            obtain ⟨TL0, hTL0⟩ : ∃ z : List Asn, z = [IntsA (.slice a8 LIVE.length c8) LIVE, IntsA (.slice ka nkl kc) (LIVE ++ finT t.ents), EnA (.slice ea t.ents.length ec) t.ents] := ⟨_, rfl⟩
            rw [← hTL0] at HF
            have HTL0 := Lib.hid hTL0
            clear hTL0
            rcases hsplit with hs1 | ⟨hs1, hs2⟩
            all_goals
              as_aux_lemma =>
              go_wp2_with fail
              refine CR.out.mono ?_
              rintro e w3 ⟨av, rfl, hi3, ho3⟩
              have hi3' : Ints w3 wr.heap.size av ALL := hi3
              obtain ⟨aa, ac, hav⟩ := hi3'.len
              subst hav
              obtain ⟨TL, hTL⟩ : ∃ z : List Asn, z = TL0 ++ [IntsA (.slice aa ALL.length ac) ALL] := ⟨_, rfl⟩
              have HF3 : Hid (Fam w1 w3 (G7 bo hb q p r tb ub m1 m0 t Tb.new TL)) := by rw [hTL]; exact G7.snoc (HF.out.addInts ho3 hi3')
              have HTL := Lib.hid hTL
              clear hTL
              have HP1 := Lib.hid (tbegin7 (w1 := w1) (bo := bo) (hb := hb) (q := q) (p := p) (r := r) (tb := tb) (ub := ub) (m0 := m0) (t0 := Tb.new) (tl := TL) HGD.out)
              have HP2 := Lib.hid (tfinish7 (w1 := w1) (bo := bo) (hb := hb) (q := q) (p := p) (r := r) (tb := tb) (ub := ub) (m0 := m0) (t0 := Tb.new) (tl := TL) HBG.out HMO1.out)
              rw [HE1.out] at HP1
              rw [HE3.out] at HP2
              have b2 := (G7.row HF3.out).cell 2 rfl
              have b4 := (G7.row HF3.out).cell 4 rfl
              clear CR hi3 hi3' ho3 b1 HF HE1 HE3 HBG
              generalize (t.begin m1).2.finish m1 = rf at *
              generalize (t.begin m1).2 = tbg at *
              obtain ⟨r1, r2, tf, mf⟩ := rf
              go_wp2_with fail
              go_region_held3 (fun w' => w'.cell? ⟨bo, 2, none⟩ = some (.pointer (some ⟨p, 0, none⟩)) ∧ w'.cell? ⟨bo, 4, none⟩ = some (.pointer (some ⟨tb, 0, none⟩)))
                (first | (exact ⟨b2, b4⟩) | (exact ⟨(G7.row f5).cell 2 rfl, (G7.row f5).cell 4 rfl⟩))
                (first | (go_at_call 9; refine (HP1.out _ HF3.out.drew).mono ?_; rintro e w5 ⟨rfl, f5⟩))
              have HF5 := Lib.hid f5
              have b2' := (G7.row f5).cell 2 rfl
              have b4' := (G7.row f5).cell 4 rfl
              clear f5 HP1 HF3 b2 b4
              go_wp2_with fail
              go_region_held3 (fun w' => w'.cell? ⟨bo, 2, none⟩ = some (.pointer (some ⟨p, 0, none⟩)) ∧ w'.cell? ⟨bo, 4, none⟩ = some (.pointer (some ⟨tb, 0, none⟩)))
                (first | (exact ⟨b2', b4'⟩) | (exact ⟨(G7.row f8).cell 2 rfl, (G7.row f8).cell 4 rfl⟩))
                (first | (go_at_call 10; refine (HP2.out _ HF5.out.drew).mono ?_; rintro e w8 ⟨rfl, f8⟩))
              have HF8 : Hid (Fam w1 w8 (G7 bo hb q p r tb ub mf m0 tf Tb.new TL)) := f8
              rw [HTL.out, HTL0.out] at HF8
              clear f8 HF5 HP2 b2' b4'
              obtain ⟨_, _, _, hc1⟩ := G7.tbatK HF8.out
              have hq20 := HGF.out.b.q20
              have HO8 : Hid (Only [] w w8) := HO1.out.trans HF8.out.only (by simp)
              have HB4 : Hid (∀ wx, Only [] w8 wx → wx.cell? ⟨bo, 4, none⟩ = some (.pointer (some ⟨tb, 0, none⟩))) := fun wx ho => (G7.row (HF8.out.only0 ho)).cell 4 rfl
              have HT1 : Hid (∀ wx n, Only [] w8 wx → Calls Try.prog 11 #[.pointer (some ⟨tb, 0, none⟩), .int .i64 n] wx (fun e w' => e = .returned (.tuple #[.int .i64 (tf.target n).1, .int .i64 (tf.target n).2]) ∧ Only [] wx w')) := fun wx n ho => ttarget_rep wx (hc1.only0 ho) n
              have HTG : Hid (∀ k : Nat, k < t.ents.length → tf.target (k : Int) = ((eAt tf.ents k).tgt, 0)) := fun k hk => by
                unfold Tb.target
                rw [if_neg (by rw [HCE.out.len]; omega)]
                rfl
              have HQ1 : Hid (∀ wx, Only [] w8 wx → Calls Try.prog 14 #[.pointer (some ⟨tb, 0, none⟩)] wx (RetL wx (t.ups m1 t.ents.length))) := fun wx ho => by
                have := tqueue_rep wx (hc1.only0 ho) (by omega)
                rw [HCE.out.q, HQ.out] at this
                exact this
              have HQL : Hid ((t.ups m1 t.ents.length).length ≤ 1000) := by
                have h := hq20
                rw [HCE.out.q, HQ.out] at h
                show _ ≤ _
                have h2 : (t.ups m1 t.ents.length).length ≤ 20 := h
                omega
              have HH1 : Hid (∀ wx y, Only [] w8 wx → Calls Try.prog 12 #[.slice a8 LIVE.length c8, .int .i64 y] wx (Exact wx (.bool (decide (y ∈ LIVE))))) := fun wx y ho => has_any wx a8 LIVE.length c8 LIVE rfl ((HF8.out.only0 ho).ints 7 rfl).read (by have := HL192.out; omega) y
              have HH2 : Hid (∀ wx y, Only [] w8 wx → Calls Try.prog 12 #[.slice aa ALL.length ac, .int .i64 y] wx (Exact wx (.bool (decide (y ∈ ALL))))) := fun wx y ho => has_any wx aa _ ac _ rfl ((HF8.out.only0 ho).ints 10 rfl).read (by have := HAL.out; omega) y
              have HEN : Hid (∀ wx k, k < t.ents.length → Only [] w8 wx → ∃ ga, ea = some ⟨ga, 0, none⟩ ∧ t.ents.length ≤ ec ∧ wx.cell? ⟨ga, k * 3, none⟩ = some (.int .i64 (eAt t.ents k).kind) ∧ wx.cell? ⟨ga, k * 3 + 1, none⟩ = some (.int .i64 (eAt t.ents k).tgt) ∧ wx.cell? ⟨ga, k * 3 + 2, none⟩ = some (.int .i64 (eAt t.ents k).tag)) := fun wx k hk hx => by
                obtain ⟨ga, cap, hev, _, hcap, k0, k1, k2, _⟩ := ((HF8.out.only0 hx).ents 9 rfl).at hk
                simp only [Value.slice.injEq] at hev
                exact ⟨ga, hev.1, by rw [hev.2.2]; exact hcap, k0, k1, k2⟩
              have HUP : Hid (∀ k, k < t.ents.length → (t.upAt m1 k = true ↔ ((eAt tf.ents k).tgt = 0 ∧ (eAt t.ents k).tgt ≠ 0 ∧ (eAt t.ents k).kind = 2))) := fun k hk => HCE.out.up HB.out HMO1.out hk
              have HL20 : Hid (t.ents.length ≤ 20) := HGD.out.b.le
              have hz := Only.refl [] w8
              have HZ := Lib.hid hz
              clear hc1 hq20 hz HF8 HGF HCE HQ HGD HB HAL
              generalize ALL.length = nal at *
              generalize LIVE.length = nlv at *
              generalize hlen : t.ents.length = len at *
              go_wp2_with fail
              go_loopw [20, 21] (fun v iv wr => ∃ k : Nat, k ≤ len ∧ iv = .int .i64 k ∧ Ints wr w8.heap.size v (t.ups m1 k) ∧ Only [] w8 wr) (fun _ iv _ => len - (intOf iv).toNat)
              case atStart => exact ⟨0, by omega, rfl, Ints.nil _ _, HZ.out⟩
              case round => as_aux_lemma =>
                obtain ⟨k, hk, rfl, hi, ho⟩ := hrel
                obtain ⟨va, vc, hvv⟩ := hi.len
                obtain ⟨nu, hnu⟩ : ∃ z, z = (t.ups m1 k).length := ⟨_, rfl⟩
                rw [← hnu] at hvv
                subst hvv
                have HI := Lib.hid hi
                have HO := Lib.hid ho
                have HNU := Lib.hid hnu
                have b4w := HB4.out wr ho
                have hnu20 : nu ≤ len := by rw [hnu]; exact ups_len t m1 hk
                clear hi ho hnu
                by_cases hlt : k < len
                · have hlt1 : (k : Int) < (len : Int) := by omega
                  have hl20 : len ≤ 20 := HL20.out
                  have hk0 : (0 : Int) ≤ (k : Int) := by omega
                  obtain ⟨ga, rfl, hec, e0, e1, e2⟩ := HEN.out wr k hlt HO.out
                  have hX := HKT.out k hlt
                  have HU := Lib.hid (HUP.out k hlt)
                  have HTN : Hid ((eAt t.ents k).tgt ≠ 0) := HNZ.out k hlt
                  have HS : Hid (t.ups m1 (k + 1) = t.ups m1 k ++ (if t.upAt m1 k = true then [(eAt t.ents k).tag] else [])) := ups_succ
                  have cT := HT1.out wr (k : Int) HO.out
                  rw [HTG.out k hlt] at cT
                  have HHL := Lib.hid (fun wx (hx : Only [] w8 wx) => HH1.out wx (eAt t.ents k).tgt hx)
                  have HHA := Lib.hid (fun wx (hx : Only [] w8 wx) => HH2.out wx (eAt t.ents k).tgt hx)
                  generalize (eAt t.ents k).kind = K at *
                  generalize (eAt t.ents k).tgt = T at *
                  generalize (eAt t.ents k).tag = G at *
                  generalize (eAt tf.ents k).tgt = X at *
                  have HX := Lib.hid hX
                  clear hX HKT HUP HNZ HTG HQ1 HQL HT1 HEN
                  go_wp2_with fail
                  refine cT.mono ?_
                  rintro e w9 ⟨rfl, ho9⟩
                  have HO9 : Hid (Only [] w8 w9) := HO.out.trans ho9 (by simp)
                  have HO9b := Lib.hid ho9
                  have e0' := ho9.cell0 e0
                  have e1' := ho9.cell0 e1
                  have e2' := ho9.cell0 e2
                  have cH := HHL.out w9 HO9.out
                  have cA := HHA.out w9 HO9.out
                  clear cT ho9 HO b4w e0 e1 e2 HHL HHA
                  go_wp2_with fail
                  refine cH.mono ?_
                  rintro e _ ⟨rfl, rfl⟩
                  clear cH
                  by_cases hK3 : K = 3
                  · subst hK3
                    go_wp2_with fail
                    refine cA.mono ?_
                    rintro e _ ⟨rfl, rfl⟩
                    have hX := HX.out
                    first | rw [if_pos rfl] at hX | rw [if_pos trivial] at hX
                    clear cA HX
                    generalize decide (T ∈ LIVE) = bL at *
                    generalize decide (T ∈ ALL) = bb at *
                    cases bb with
                    | true =>
                      rw [if_pos rfl] at hX
                      subst hX
                      have HI2 : Hid (Ints w9 w8.heap.size (.slice va nu vc) (t.ups m1 (k + 1))) := by
                        show Ints _ _ _ _
                        rw [HS.out, if_neg (fun e => by have := HU.out.1 e; first | (cases this.2.2; done) | (exact absurd this.1 (by assumption)) | omega), List.append_nil]
                        exact HI.out.only HO9b.out (by simp)
                      clear HS HU HI HO9b
                      go_wp2_with fail
                      exact ⟨⟨k + 1, by omega, by go_num, HI2.out, HO9.out⟩, by simp [intOf]; omega⟩
                    | false =>
                      rw [if_neg (by decide)] at hX
                      subst hX
                      have hTb : ((0 : Int) == T) = false := by have := HTN.out; rw [beq_eq_false_iff_ne]; exact fun e => this e.symm
                      have HI2 : Hid (Ints w9 w8.heap.size (.slice va nu vc) (t.ups m1 (k + 1))) := by
                        show Ints _ _ _ _
                        rw [HS.out, if_neg (fun e => by have := HU.out.1 e; first | (cases this.2.2; done) | (exact absurd this.1 (by assumption)) | omega), List.append_nil]
                        exact HI.out.only HO9b.out (by simp)
                      clear HS HU HI HO9b
                      go_wp2_with fail
                      exact ⟨⟨k + 1, by omega, by go_num, HI2.out, HO9.out⟩, by simp [intOf]; omega⟩
                  · have hK3b : (K == 3) = false := by simpa using hK3
                    have hX := HX.out
                    rw [if_neg hK3] at hX
                    clear HX cA
                    generalize decide (T ∈ LIVE) = bb at *
                    cases bb with
                    | true =>
                      rw [if_pos rfl] at hX
                      subst hX
                      have hXN := HTN.out
                      by_cases hK2 : K = 2
                      · subst hK2
                        clear hK3 hK3b
                        have HI2 : Hid (Ints w9 w8.heap.size (.slice va nu vc) (t.ups m1 (k + 1))) := by
                          show Ints _ _ _ _
                          rw [HS.out, if_neg (fun e => by have := HU.out.1 e; first | (cases this.2.2; done) | (exact absurd this.1 (by assumption)) | omega), List.append_nil]
                          exact HI.out.only HO9b.out (by simp)
                        clear HS HU HI HO9b
                        go_wp2_with fail
                        exact ⟨⟨k + 1, by omega, by go_num, HI2.out, HO9.out⟩, by simp [intOf]; omega⟩
                      · have hK2b : (K == 2) = false := by simpa using hK2
                        have HI2 : Hid (Ints w9 w8.heap.size (.slice va nu vc) (t.ups m1 (k + 1))) := by
                          show Ints _ _ _ _
                          rw [HS.out, if_neg (fun e => by have := HU.out.1 e; first | (cases this.2.2; done) | (exact absurd this.1 (by assumption)) | omega), List.append_nil]
                          exact HI.out.only HO9b.out (by simp)
                        clear HS HU HI HO9b
                        go_wp2_with fail
                        exact ⟨⟨k + 1, by omega, by go_num, HI2.out, HO9.out⟩, by simp [intOf]; omega⟩
                    | false =>
                      rw [if_neg (by decide)] at hX
                      subst hX
                      have hTb : ((0 : Int) == T) = false := by have := HTN.out; rw [beq_eq_false_iff_ne]; exact fun e => this e.symm
                      by_cases hK2 : K = 2
                      · subst hK2
                        clear hK3 hK3b
                        have HSA : Hid (t.ups m1 (k + 1) = t.ups m1 k ++ [G]) := by
                          show _ = _
                          rw [HS.out, if_pos (HU.out.2 ⟨rfl, HTN.out, rfl⟩)]
                        have HI9 : Hid (Ints w9 w8.heap.size (.slice va nu vc) (t.ups m1 k)) := HI.out.only HO9b.out (by simp)
                        clear HS HU HI HO9b
                        go_wp2_with (at_builtin; refine append_int1 rfl _ _ rfl w8.heap.size _ _ rfl (HI9.out.alloc _) w9.heap.size G rfl ?c1 ?c2 ?c3 ?c4)
                        case c1 => exact (Row.new w9 _ [_]).cell 0 rfl
                        case c2 => have := HNU.out; rw [← this]; omega
                        case c3 => have := HO9.out.size; simp; omega
                        case c4 =>
                          intro v' wA hi2 ho2 hb2
                          have HOA : Hid (Only [] w8 wA) := (HO9.out.alloc _).trans ho2 (fun z hz => .inr (HI9.out.own z (own_mem hz)).1)
                          have HIA : Hid (Ints wA w8.heap.size v' (t.ups m1 (k + 1))) := by
                            show Ints _ _ _ _
                            rw [HSA.out]
                            exact hi2
                          clear hi2 ho2 hb2 HSA HI9
                          go_wp2_with fail
                          exact ⟨⟨k + 1, by omega, by go_num, HIA.out, HOA.out⟩, by simp [intOf]; omega⟩
                      · have hK2b : (K == 2) = false := by simpa using hK2
                        have HI2 : Hid (Ints w9 w8.heap.size (.slice va nu vc) (t.ups m1 (k + 1))) := by
                          show Ints _ _ _ _
                          rw [HS.out, if_neg (fun e => by have := HU.out.1 e; first | (cases this.2.2; done) | (exact absurd this.1 (by assumption)) | omega), List.append_nil]
                          exact HI.out.only HO9b.out (by simp)
                        clear HS HU HI HO9b
                        go_wp2_with fail
                        exact ⟨⟨k + 1, by omega, by go_num, HI2.out, HO9.out⟩, by simp [intOf]; omega⟩
                · obtain rfl : k = len := by omega
                  have hlt1 : ¬ (k : Int) < (k : Int) := by omega
                  have cq := HQ1.out wr HO.out
                  clear HEN HKT HUP HNZ HTG HT1 HH1 HH2
                  go_wp2_with fail
                  refine cq.mono ?_
                  rintro e w9 ⟨vq, rfl, hiq, hoq⟩
                  have ci := rints_same w9 vq (.slice va nu vc) (t.ups m1 k) hiq.read (HI.out.only hoq (by simp)).read HQL.out
                  have HO9 : Hid (Only [] w8 w9) := HO.out.trans hoq (by simp)
                  clear cq hiq hoq b4w
                  go_wp2_with fail
                  refine ci.mono ?_
                  rintro e wI ⟨rfl, hdI⟩
                  have HOI : Hid (Only [] w8 wI) := HO9.out.trans (hdI.only []) (by simp)
                  have cs := ssane_any wI
                  clear ci hdI
                  go_wp2_with fail
                  refine cs.mono ?_
                  rintro e wE ⟨rfl, hoE⟩
                  have HE : Hid (Below ws w wE) := HFIN.out _ (HO8.out.trans (HOI.out.trans hoE (by simp)) (by simp))
                  clear cs hoE
                  go_wp2_with fail
                  exact hR.out _ _ ⟨rfl, HE.out⟩
end Go.Proofs.Ythflghdaejbdkaa
