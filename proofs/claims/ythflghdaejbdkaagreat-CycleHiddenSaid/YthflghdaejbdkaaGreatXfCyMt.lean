/- Lemmas of this claim. -/
import Derived.Test.YthflghdaejbdkaaGreatXfCyMr
namespace Go.Proofs.YthflghdaejbdkaaGreat
open Go.RowKit Go.Maps
set_option maxHeartbeats 12800000
set_option maxRecDepth 100000
set_option linter.unusedVariables false
def Md.none : Md := ⟨[], [], [], false⟩
section
variable {w0 w w' : World} {l : List Asn} {mb cb N : Nat} {d : Md} {x : MdX} {K : Nat → Prop} {φ : Nat → Int} {c : Co}
theorem Born.val (w : World) (T : Nat) : Born w w (ValA T (.slice none 0 0) []) := ⟨Only.refl _ _, fun k => (Value.slice none 0 0).ownBlock = some k, ⟨World.ownsRow_nil _ _ _ _, fun k => Iff.rfl⟩, fun k hk => by cases hk⟩
theorem Born.ke (w : World) : Born w w (KeA (.slice none 0 0) []) := ⟨Only.refl _ _, fun k => (Value.slice none 0 0).ownBlock = some k, ⟨World.ownsRow_nil _ _ _ _, fun k => Iff.rfl⟩, fun k hk => by cases hk⟩
theorem Born.sl (w : World) : Born w w (SlA [] []) := ⟨Only.refl _ _, fun _ => False, ⟨(), rfl, fun _ _ => False, fun i A h => by simp at h, fun i j h => by simp at h, fun k => by simp⟩, fun k hk => hk.elim⟩
theorem Born.rf (w : World) : Born w w (RfA [] []) := ⟨Only.refl _ _, fun _ => False, ⟨(), rfl, fun _ _ => False, fun i A h => by simp at h, fun i j h => by simp at h, fun k => by simp⟩, fun k hk => hk.elim⟩
theorem Mdl.new (h : Fam w0 w []) : Fam w0 (w.alloc (.cells #[.slice Option.none 0 0, .slice Option.none 0 0, .slice Option.none 0 0, .bool false] 69)) (Mdl w.heap.size Md.none ⟨.slice Option.none 0 0, .slice Option.none 0 0, .slice Option.none 0 0, [], []⟩) :=
  (((((h.addRow 69 [.slice Option.none 0 0, .slice Option.none 0 0, .slice Option.none 0 0, .bool false]).add (Born.val _ 23)).add (Born.val _ 50)).add (Born.ke _)).add (Born.sl _)).add (Born.rf _)
theorem Mdl.newC (h : Fam w0 w [CoA cb c]) : Fam w0 (w.alloc (.cells #[.slice Option.none 0 0, .slice Option.none 0 0, .slice Option.none 0 0, .bool false] 69)) (Mdl w.heap.size Md.none ⟨.slice Option.none 0 0, .slice Option.none 0 0, .slice Option.none 0 0, [], []⟩ ++ [CoA cb c]) := by
  have h1 := (((((h.addRow 69 [.slice Option.none 0 0, .slice Option.none 0 0, .slice Option.none 0 0, .bool false]).add (Born.val _ 23)).add (Born.val _ 50)).add (Born.ke _)).add (Born.sl _)).add (Born.rf _)
  refine h1.selC (fun k => if k < 6 then k + 1 else 0) (fun k Y hk => ?_) (fun j k hj hk hne => ?_)
  · have hk2 := (List.getElem?_eq_some_iff.1 hk).1
    match k, (show k < 7 from hk2) with
    | 0, _ => exact hk
    | 1, _ => exact hk
    | 2, _ => exact hk
    | 3, _ => exact hk
    | 4, _ => exact hk
    | 5, _ => exact hk
    | 6, _ => exact hk
  · have hj2 : j < 7 := hj
    have hk2 : k < 7 := hk
    split <;> split <;> omega
theorem St.start {n : Nat} {r : Int} (h1 : 1 ≤ n) (h24 : n ≤ 24) (hr : 0 ≤ r ∧ r ≤ 100) : St 0 Md.none (fun _ => False) (fun _ => 0) (Co.new n r) :=
  ⟨⟨rfl, fun p hp => (by cases hp), fun i hi => hi.elim, fun i => rfl, fun i j hi => hi.elim, fun i hi => hi.elim, fun i hi => hi.elim⟩, Co.Ok.new h1 h24 hr, Nat.zero_le _, Nat.le_refl _, fun i => Nat.zero_le _⟩
theorem St.step (h : St N d K φ c) : St N d K φ c.step.2.2 := ⟨h.sf.step h.ok.k, h.ok.step, h.kl, h.sl, h.ln⟩
theorem St.giveE (h : St N d K φ c) (n : Int) : St N d K φ (c.giveE n).2.2 := ⟨h.sf.giveE h.ok.k n, h.ok.giveE n, h.kl, h.sl, h.ln⟩
theorem St.begin (h : St N d K φ c) (hp : c.ph = 0) : (∃ K' φ', St N d K' φ' (c.begin d.held).2) ∧ (c.begin d.held).1 = 0 := by
  have h1 := h.sf.begin h.ok.k hp (by have := h.kl; omega)
  exact ⟨⟨_, _, h1.1, h.ok.begin _, h.kl, h.sl, h.ln⟩, h1.2⟩
theorem St.held_wf (h : St N d K φ c) : ∀ y ∈ d.held, wfI y := fun y hy => by
  obtain ⟨p, hp, rfl⟩ := List.mem_map.1 hy
  obtain ⟨h1, h2⟩ := h.sf.kp p hp
  have := h.rng h1
  rw [h2]
  exact wfI_mk (by omega)
def Rated (pages rate : Int) : Prop := pages < 1 ∨ 24 < pages ∨ rate < 0 ∨ 100 < rate
def Ran (w : World) (bad : Prop) (p : Pm) (e : Ending) (w' : World) : Prop :=
  ∃ (mb : Nat) (d : Md), e = .returned (.tuple #[.pointer (some ⟨mb, 0, Option.none⟩), .bool true]) ∧ Fam w w' [MdA mb d] ∧ (bad → d = Md.none) ∧ (¬ bad → d.lost = false → d.pm = p) ∧ d.slots.length ≤ 900 ∧ d.keeps.length ≤ 30 ∧ ∀ i, (d.sl i).length ≤ 48
theorem Ran.of {bad : Prop} {p : Pm} {e : Ending} {tl : List Asn} (hf : Fam w0 w (Mdl mb d x ++ tl)) (he : e = .returned (.tuple #[.pointer (some ⟨mb, 0, Option.none⟩), .bool true])) (h1 : bad → d = Md.none) (h2 : ¬ bad → d.lost = false → d.pm = p) (h3 : d.slots.length ≤ 900 ∧ d.keeps.length ≤ 30 ∧ ∀ i, (d.sl i).length ≤ 48) : Ran w0 bad p e w := by
  refine ⟨mb, d, he, ?_, h1, h2, h3⟩
  have h0 : Fam w0 w (Mdl mb d x ++ [NoA]) := by
    obtain ⟨ho, S, a, b, cc⟩ := hf
    refine ⟨ho, fun k => if k < 6 then S k else (fun _ => False), fun i A hi => ?_, fun i j hi hj hij k => ?_, fun i hi k hk => ?_⟩
    · have h7 := (List.getElem?_eq_some_iff.1 hi).1
      have h7 : i < 7 := h7
      by_cases e : i < 6
      · simp only [e, if_true]
        refine a i A ?_
        rw [List.getElem?_append_left (show i < (Mdl mb d x).length from e)] at hi ⊢
        exact hi
      · obtain rfl : i = 6 := by omega
        cases hi
        exact fun k hk => hk
    · have h7 : i < 7 := hi
      have h8 : j < 7 := hj
      by_cases e : i < 6
      · by_cases e2 : j < 6
        · simp only [e, e2, if_true]
          have hl : ∀ z, z < 6 → z < (Mdl mb d x ++ tl).length := fun z hz => by rw [List.length_append]; show z < 6 + _; omega
          exact b i j (hl i e) (hl j e2) hij k
        · simp only [e2, if_false]; exact fun _ h => h
      · simp only [e, if_false]; exact fun h => h.elim
    · have h7 : i < 7 := hi
      by_cases e : i < 6
      · simp only [e, if_true] at hk
        exact cc i (by rw [List.length_append]; show i < 6 + _; omega) k hk
      · simp only [e, if_false] at hk
  exact MdA.close (l := [NoA]) (i := 0) x h0 (by decide)
theorem run_bad (w : World) (pages rate : Int) (h : Rated pages rate) (p : Pm) (v1 v2 : Value) (la ra : Option Addr) (ln lc rn rc : Nat) :
    Calls Tryz.prog 33 #[.int .i64 pages, .int .i64 rate, .slice la ln lc, .slice ra rn rc] w (Ran w (Rated pages rate) p) := by
  refine calls_abs fun R hR => ?_
  have c1 := cnew_bad w pages rate h
  have HB := Lib.hid h
  clear h
  go_enter Tryz.func33, Tryz.ntmps33
  go_wp2_with fail
  refine c1.mono ?_
  rintro e w1 ⟨rfl, ho1⟩
  have c2 := gnewC_bad w1 pages rate HB.out
  have HO1 := Lib.hid ho1
  clear c1 ho1
  go_wp2_with fail
  refine c2.mono ?_
  rintro e w2 ⟨rfl, ho2⟩
  have F2 : Hid (Fam w w2 []) := (Fam.nil w).only0 (HO1.out.trans ho2 (by simp))
  have F3 : Hid (Fam w (w2.alloc (.cells #[.slice none 0 0, .slice none 0 0, .slice none 0 0, .bool false] 69)) (Mdl w2.heap.size Md.none ⟨.slice none 0 0, .slice none 0 0, .slice none 0 0, [], []⟩ ++ [])) := Mdl.new F2.out
  clear c2 ho2 HO1 F2
  go_wp2_with fail
  exact hR.out _ _ (Ran.of F3.out rfl (fun _ => rfl) (fun hn => absurd HB.out hn) ⟨Nat.zero_le _, Nat.zero_le _, fun i => Nat.zero_le _⟩)
end
end Go.Proofs.YthflghdaejbdkaaGreat
namespace Go.Proofs.YthflghdaejbdkaaGreat
open Go.RowKit Go.Maps
set_option maxHeartbeats 12800000
set_option maxRecDepth 100000
set_option linter.unusedVariables false
theorem run_good (w : World) (n : Nat) (rate : Int) (h1 : 1 ≤ n) (h24 : n ≤ 24) (hr : 0 ≤ rate ∧ rate ≤ 100) (la : Option Addr) (ln lc : Nat) (f : Nat → Nat → Int) (ra : Option Addr) (rn rc : Nat) (g : Nat → Int) (hd : Recs 4 w la ln f) (hw : Nums w ra rn g) :
    Calls Tryz.prog 33 #[.int .i64 (n : Int), .int .i64 rate, .slice la ln lc, .slice ra rn rc] w (Ran w (Rated (n : Int) rate) (Pm.after f (min ln 60))) := by
  refine calls_abs fun R hR => ?_
  have c1 := cnew_good w (Fam.nil w) n rate h1 h24 hr
  have c2 : Hid (∀ wx b, Fam w wx [CoA b (Co.new n rate)] → Calls Tryz.prog 36 #[.int .i64 (n : Int), .int .i64 rate] wx (fun e w' => ∃ g, e = .returned (.tuple #[.pointer (some ⟨g, 0, none⟩), .int .i64 0]) ∧ Fam w w' ([CoA b (Co.new n rate)] ++ [GoA g (Co.new n rate)]))) := fun wx b hx => gnewC_good wx hx n rate h1 h24 hr
  have HST : Hid (St 0 Md.none (fun _ => False) (fun _ => 0) (Co.new n rate)) := St.start h1 h24 hr
  have HNB : Hid (¬ Rated (n : Int) rate) := by show ¬ Rated _ _; unfold Rated; omega
  have HD := Lib.hid hd
  have HW := Lib.hid hw
  clear hd hw h1 h24 hr
  generalize Co.new n rate = c0 at *
  go_enter Tryz.func33, Tryz.ntmps33
  go_wp2_with fail
  refine c1.mono ?_
  rintro e w1 ⟨b, rfl, hf1⟩
  have c2' := c2.out w1 b hf1
  clear c1 c2 hf1
  go_wp2_with fail
  refine c2'.mono ?_
  rintro e w2 ⟨gb, rfl, hf2⟩
  have F2 : Hid (Fam w w2 [CoA b c0]) := hf2.pop
  have F3 : Hid (Fam w (w2.alloc (.cells #[.slice none 0 0, .slice none 0 0, .slice none 0 0, .bool false] 69)) (Mdl w2.heap.size Md.none ⟨.slice none 0 0, .slice none 0 0, .slice none 0 0, [], []⟩ ++ [CoA b c0])) := Mdl.newC F2.out
  clear c2' hf2 F2
  go_upto_region 6 with fail
  obtain ⟨mb, hmb⟩ : ∃ z, z = w2.heap.size := ⟨_, rfl⟩
  rw [← hmb] at F3 ⊢
  generalize (w2.alloc (.cells #[.slice none 0 0, .slice none 0 0, .slice none 0 0, .bool false] 69)) = w3 at *
  clear hmb
  go_wp2_with fail
  go_loopw [15] (fun iv wx => ∃ (i : Nat) (d : Md) (x : MdX) (K : Nat → Prop) (φ : Nat → Int) (c : Co), iv = .int .i64 i ∧ i ≤ ln ∧ i ≤ 60 ∧ Fam w wx (Mdl mb d x ++ [CoA b c]) ∧ Hid (St (2 * i) d K φ c ∧ (d.lost = false → d.pm = Pm.after f i))) (fun iv _ => 60 - (intOf iv).toNat)
  case atStart => exact ⟨0, Md.none, _, _, _, c0, rfl, by omega, by omega, F3.out, HST.out, fun _ => rfl⟩
  case round =>
    clear F3 HST
    obtain ⟨i, d, x, K, φ, c, rfl, hi, hi60, hf, HS⟩ := hrel
    have HF := Lib.hid hf
    by_cases hlt : i < ln ∧ i < 60
    · obtain ⟨hlt1, hlt2⟩ := hlt
      have hl1 : (i : Int) < (ln : Int) := by omega
      have hl2 : (i : Int) < 60 := by omega
      have hi0 : (0 : Int) ≤ (i : Int) := by omega
      rcases HD.out.2 with h0 | ⟨bb, oo, rfl, hc⟩
      · omega
      have k0 := HF.out.cell (hc i hlt1 0 (by omega)).1
      have k1 := HF.out.cell (hc i hlt1 1 (by omega)).1
      have k2 := HF.out.cell (hc i hlt1 2 (by omega)).1
      have k3 := HF.out.cell (hc i hlt1 3 (by omega)).1
      rw [Nat.add_zero] at k0
      rw [← Nat.add_assoc] at k1 k2 k3
      have wa := (hc i hlt1 1 (by omega)).2
      have wb := (hc i hlt1 2 (by omega)).2
      have ca := act_any wr hf (by omega) HS.out.1 (f i 0) (f i 1) (f i 2) (f i 3) wa wb
      have HPA : Hid (d.lost = false → d.pm.act (f i 0) (f i 1) (f i 2) (f i 3) = Pm.after f (i + 1)) := fun e => by rw [HS.out.2 e]; rfl
      generalize f i 0 = d0 at *
      generalize f i 1 = d1 at *
      generalize f i 2 = d2 at *
      generalize f i 3 = d3 at *
      clear hc wa wb hf
      go_wp2_with fail
      refine ca.mono ?_
      rintro e w4 ⟨rfl, d', c', x', K', φ', hf4, hst4, hpm4⟩
      have HPM : Hid (d'.lost = false → d'.pm = Pm.after f (i + 1)) := fun e => by
        obtain ⟨e1, e2⟩ := hpm4 e
        rw [e2]
        exact HPA.out e1
      have F4 := Lib.hid hf4
      have HS4 : Hid (St (2 * (i + 1)) d' K' φ' c') := hst4
      clear ca hf4 hst4 hpm4 HPA HF HS k0 k1 k2 k3
      go_upto_if 65 with fail
      go_cut [16] (fun s16 wx => ∃ z : Int, s16 = .int .i64 z ∧ wfI z ∧ wx = w4)
      case first =>
        by_cases hrn : rn = 0
        · subst hrn
          go_wp2_with fail
          go_meet
          exact ⟨0, rfl, wfI_mk (by decide), rfl⟩
        · have hr0 : (0 : Int) < (rn : Int) := by omega
          rcases HW.out.2 with h0 | ⟨rb, ro, rfl, hc⟩
          · omega
          obtain ⟨q, hq⟩ : ∃ q, q = i % rn := ⟨_, rfl⟩
          have hqr : q < rn := by rw [hq]; exact Nat.mod_lt _ (by omega)
          have kq := F4.out.cell (hc q hqr).1
          have wq := (hc q hqr).2
          have hq1 : (i : Int).tmod (rn : Int) = (q : Int) := by rw [Int.tmod_eq_emod_of_nonneg (by omega), hq]; omega
          have hq2 : (i : Int) % (rn : Int) = (q : Int) := by rw [hq]; omega
          have hqi : (q : Int) < (rn : Int) := by omega
          have hq0 : (0 : Int) ≤ (q : Int) := by omega
          have hrnz : ¬ (rn : Int) = 0 := by omega
          replace hq := hq.symm
          clear hc
          go_wp2_with fail
          go_meet
          exact ⟨_, rfl, wq, rfl⟩
      case rest =>
        obtain ⟨z, rfl, hz, hwc⟩ := hcut
        have hwc2 := hwc.symm
        subst hwc2
        clear hwc
        go_upto_region 16 with fail
        go_cut [86] (fun s86 wx => s86 = .bool false ∧ ∃ (K2 : Nat → Prop) (φ2 : Nat → Int) (c2 : Co), Fam w wx (Mdl mb d' x' ++ [CoA b c2]) ∧ Hid (St (2 * (i + 1)) d' K2 φ2 c2))
        case first =>
          by_cases hz0 : z = 0
          · subst hz0
            go_wp2_with fail
            go_meet
            exact ⟨rfl, _, _, _, F4.out, HS4⟩
          · have hzb : (z != 0) = true := by simpa using hz0
            have hzc : (z == 0) = false := by simpa using hz0
            have cp := cphaseA_rep w4 F4.out (i := 6) rfl
            by_cases hph : c'.ph = 0
            · rw [hph] at cp
              have HPH := Lib.hid hph
              clear hph
              have ch := held_any w4 F4.out (by have := HS4.out.kl; omega)
              go_wp2_with fail
              refine cp.mono ?_
              rintro e _ ⟨rfl, rfl⟩
              go_wp2_with fail
              refine ch.mono ?_
              rintro e w5 ⟨hv, rfl, hi5, ho5⟩
              have F5 : Hid (Fam w w5 (Mdl mb d' x' ++ [CoA b c', IntsA hv d'.held])) := F4.out.addInts ho5 hi5
              obtain ⟨va, vc, hvv⟩ := hi5.len
              have HHL : Hid (d'.held.length ≤ 30) := by have := HS4.out.kl; show _ ≤ _; unfold Md.held; rw [List.length_map]; exact this
              obtain ⟨hn, hhn⟩ : ∃ z, z = d'.held.length := ⟨_, rfl⟩
              rw [← hhn] at hvv
              subst hvv
              have cb := cbegin_rep w5 F5.out (i := 6) rfl HS4.out.ok.k va hn vc d'.held hhn.symm (by have := HHL.out; omega) HS4.out.held_wf (fun wx hx => (hx.ints 7 rfl).read)
              obtain ⟨⟨K2, φ2, hs2⟩, hb0⟩ := HS4.out.begin HPH.out
              rw [hb0] at cb
              have HS5 := Lib.hid hs2
              clear cp ch hi5 ho5 hs2 hb0 F5 hhn
              go_wp2_with fail
              refine cb.mono ?_
              rintro e w6 ⟨rfl, hf6⟩
              have F6 : Hid (Fam w w6 (Mdl mb d' x' ++ [CoA b (c'.begin d'.held).2])) := (show Fam w w6 ((Mdl mb d' x' ++ [CoA b (c'.begin d'.held).2]) ++ [IntsA (.slice va hn vc) d'.held]) from hf6).pop
              clear cb hf6
              go_wp2_with fail
              go_meet
              exact ⟨rfl, _, _, _, F6.out, HS5⟩
            · obtain ⟨ph, hpp⟩ : ∃ z, z = c'.ph := ⟨_, rfl⟩
              rw [← hpp] at cp hph
              have hpb : ((ph : Int) == 0) = false := by rw [beq_eq_false_iff_ne]; omega
              clear hpp hph
              go_wp2_with fail
              refine cp.mono ?_
              rintro e _ ⟨rfl, rfl⟩
              clear cp
              go_wp2_with fail
              go_meet
              exact ⟨rfl, _, _, _, F4.out, HS4⟩
        case rest =>
          obtain ⟨rfl, K2, φ2, c2, hf5, HS5⟩ := hcut
          have F5 := Lib.hid hf5
          clear hf5 F4 HS4
          have hz10 : -10 < z.tmod 10 ∧ z.tmod 10 < 10 := ⟨Int.lt_tmod_of_pos z (by decide), Int.tmod_lt_of_pos z (by decide)⟩
          obtain ⟨t10, ht10⟩ : ∃ t, t = z.tmod 10 := ⟨_, rfl⟩
          rw [← ht10] at hz10
          replace ht10 := ht10.symm
          go_upto_region 19 with fail
          clear ht10
          obtain ⟨hz11, hz12⟩ := hz10
          go_loopw [17] (fun kv wx => ∃ (k : Int) (c3 : Co), kv = .int .i64 k ∧ -10 < k ∧ k < 10 ∧ Fam w wx (Mdl mb d' x' ++ [CoA b c3]) ∧ Hid (St (2 * (i + 1)) d' K2 φ2 c3)) (fun kv _ => (10 - intOf kv).toNat)
          case atStart => exact ⟨t10, c2, rfl, hz11, hz12, F5.out, HS5⟩
          case round =>
            clear F5 HS5 hz11 hz12
            obtain ⟨k, c3, rfl, hk1, hk2, hf6, HS6⟩ := hrel
            have F6 := Lib.hid hf6
            clear hf6
            by_cases hk0 : k < 0
            · have cs := cstep_rep wr F6.out (i := 6) rfl HS6.out.ok.k
              have HS7 := Lib.hid HS6.out.step
              clear HS6 F6
              go_wp2_with fail
              refine cs.mono ?_
              rintro e w7 ⟨rfl, hf7⟩
              have F7 : Hid (Fam w w7 (Mdl mb d' x' ++ [CoA b c3.step.2.2])) := hf7
              clear cs hf7
              generalize c3.step.2.2 = c4 at *
              go_wp2_with fail
              exact ⟨⟨k + 1, c4, by go_num, by omega, by omega, F7.out, HS7⟩, by simp [intOf]; omega⟩
            · have hk3 : ¬ k < 0 := hk0
              by_cases hz1 : 0 < z
              · have hg1 : z.tmod 200 = z % 200 := Int.tmod_eq_emod_of_nonneg (by omega)
                obtain ⟨gg, hgg⟩ : ∃ t, t = z % 200 := ⟨_, rfl⟩
                rw [← hgg] at hg1
                replace hgg := hgg.symm
                have cg := cgiveE_rep wr F6.out (i := 6) rfl HS6.out.ok gg
                have HS7 := Lib.hid (HS6.out.giveE gg)
                clear HS6 F6
                go_wp2_with fail
                refine cg.mono ?_
                rintro e w7 ⟨rfl, hf7⟩
                have hf7' : Fam w w7 (Mdl mb d' x' ++ [CoA b (c3.giveE gg).2.2]) := hf7
                have cv := seen_any w7 hf7' (by omega) HS7.out
                have F7 := Lib.hid hf7'
                clear cg hf7 hf7' hg1 hgg
                generalize (c3.giveE gg).2.2 = c4 at *
                go_wp2_with fail
                refine cv.mono ?_
                rintro e w8 ⟨rfl, ho8⟩
                have F8 := Lib.hid (F7.out.only0 ho8)
                clear cv ho8 F7
                go_wp2_with fail
                exact ⟨⟨i + 1, d', x', K2, φ2, c4, by go_num, by omega, by omega, F8.out, HS7.out, HPM.out⟩, by simp [intOf]; omega⟩
              · have hz2 : ¬ 0 < z := hz1
                have cv := seen_any wr F6.out (by omega) HS6.out
                go_wp2_with fail
                refine cv.mono ?_
                rintro e w8 ⟨rfl, ho8⟩
                have F8 := Lib.hid (F6.out.only0 ho8)
                clear cv ho8 F6
                go_wp2_with fail
                exact ⟨⟨i + 1, d', x', K2, φ2, c3, by go_num, by omega, by omega, F8.out, HS6.out, HPM.out⟩, by simp [intOf]; omega⟩
    · have HMI : Hid (i = min ln 60) := by show i = _; omega
      have HE : Hid (Ran w (Rated (n : Int) rate) (Pm.after f (min ln 60)) (.returned (.tuple #[.pointer (some ⟨mb, 0, none⟩), .bool true])) wr) := Ran.of HF.out rfl (fun e => absurd e HNB.out) (fun _ e => by rw [← HMI.out]; exact HS.out.2 e) ⟨by have := HS.out.1.sl; omega, HS.out.1.kl, HS.out.1.ln⟩
      clear hf HF HS HMI
      by_cases hl : i < ln
      · have hl1 : (i : Int) < (ln : Int) := by omega
        have hl2 : ¬ (i : Int) < 60 := by omega
        clear hlt
        go_wp2_with fail
        exact hR.out _ _ HE.out
      · have hl1 : ¬ (i : Int) < (ln : Int) := by omega
        clear hlt
        go_wp2_with fail
        exact hR.out _ _ HE.out
end Go.Proofs.YthflghdaejbdkaaGreat
