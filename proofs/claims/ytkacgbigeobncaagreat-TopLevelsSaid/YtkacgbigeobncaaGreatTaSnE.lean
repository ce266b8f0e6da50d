/- Lemmas of this claim. -/
import Derived.Test.YtkacgbigeobncaaGreatTaSnD
namespace Go.Proofs.YtkacgbigeobncaaGreat
open Go.RowKit Go.Maps
set_option maxHeartbeats 6400000
set_option maxRecDepth 100000
set_option linter.unusedVariables false
set_option linter.unusedSimpArgs false
def mR (bc cc : Nat) : List Value := [.string ⟨#[]⟩, .int .i64 (-1), .slice none 0 0, .slice none 0 0, .int .i64 0, .int .i64 0, .slice (some ⟨bc, 0, none⟩) 2 cc]
def cR : List Value := [.int .i64 1, .int .i64 7, .int .i64 0, .int .i64 27, .int .i64 1, .int .i64 0]
theorem rowM (bc cc : Nat) : RowZ (fun _ : Unit => mR bc cc) 7 := ⟨fun _ => rfl, fun x u hu => by simp [mR] at hu; rcases hu with rfl | rfl | rfl | rfl | rfl <;> rfl⟩
structure CM (w : World) (bm cm bc cc : Nat) : Prop where
  m : Blk w bm (mR bc cc)
  c : Blk w bc cR
  ne : bm ≠ bc
  c1 : 1 ≤ cm ∧ cm ≤ 9223372036854775807
  c2 : 2 ≤ cc ∧ cc ≤ 9223372036854775807
theorem CM.only {w w' : World} {bm cm bc cc : Nat} {F : List Nat} (h : CM w bm cm bc cc) (ho : Only F w w') (h1 : bm ∉ F) (h2 : bc ∉ F) : CM w' bm cm bc cc := ⟨h.m.only ho h1, h.c.only ho h2, h.ne, h.c1, h.c2⟩
theorem CM.rdM {w : World} {bm cm bc cc : Nat} (h : CM w bm cm bc cc) : Rd (fun _ : Unit => mR bc cc) 7 w (.slice (some ⟨bm, 0, none⟩) 1 cm) [()] := Blk.rd (rowM bc cc) (l := [()]) (h.m.cast (by simp)) h.c1
theorem CM.rdC {w : World} {bm cm bc cc : Nat} (h : CM w bm cm bc cc) : RdI w (.slice (some ⟨bc, 0, none⟩) 2 cc) helloC := Blk.rd rowIns (l := helloC) h.c h.c2
theorem clone_hello (w : World) (bm0 bc0 : Nat) (h : CM w bm0 1 bc0 2) : Calls Tryz.prog 35 #[.agg #[.slice none 0 0, .slice none 0 0, .slice (some ⟨bm0, 0, none⟩) 1 1, .int .i64 0]] w
    fun e w' => ∃ bm cm bc cc, e = .returned (.agg #[.slice none 0 0, .slice none 0 0, .slice (some ⟨bm, 0, none⟩) 1 cm, .int .i64 0]) ∧ CM w' bm cm bc cc ∧ w.heap.size ≤ bm ∧ w.heap.size ≤ bc ∧ Only [] w w' := by
  refine calls_abs fun R hR => ?_
  have H := Lib.hid h
  have HT := Lib.hid ((Row.new (w.alloc (.cells #[.slice none 0 0, .slice none 0 0, .slice (some ⟨bm0, 0, none⟩) 1 1, .int .i64 0] 74)) 74 [.slice none 0 0, .slice none 0 0, .slice none 0 0, .int .i64 0]))
  have hx := (Row.new w 74 [.slice none 0 0, .slice none 0 0, .slice (some ⟨bm0, 0, none⟩) 1 1, .int .i64 0]).alloc (.cells #[.slice none 0 0, .slice none 0 0, .slice none 0 0, .int .i64 0] 74)
  have HO := Lib.hid (((Only.refl [] w).alloc (.cells #[.slice none 0 0, .slice none 0 0, .slice (some ⟨bm0, 0, none⟩) 1 1, .int .i64 0] 74)).alloc (.cells #[.slice none 0 0, .slice none 0 0, .slice none 0 0, .int .i64 0] 74))
  clear h
  go_enter Tryz.func35, Tryz.ntmps35
  go_upto_region 1 with fail
  rw [World.size_alloc] at HT
  have HSZ := Lib.hid (show w.heap.size + 2 = ((w.alloc (.cells #[.slice none 0 0, .slice none 0 0, .slice (some ⟨bm0, 0, none⟩) 1 1, .int .i64 0] 74)).alloc (.cells #[.slice none 0 0, .slice none 0 0, .slice none 0 0, .int .i64 0] 74)).heap.size by simp)
  generalize ((w.alloc (.cells #[.slice none 0 0, .slice none 0 0, .slice (some ⟨bm0, 0, none⟩) 1 1, .int .i64 0] 74)).alloc (.cells #[.slice none 0 0, .slice none 0 0, .slice none 0 0, .int .i64 0] 74)) = w1 at *
  have HX := Lib.hid hx
  have x0 := hx.cell 0 rfl
  have x1 := hx.cell 1 rfl
  have x2 := hx.cell 2 rfl
  have f0 := hx.free 0
  have f1 := hx.free 1
  have f2 := hx.free 2
  have cc := fun w => clone0Cl w
  have ct := fun w => clone0Ty w
  have HM := Lib.hid (show ∀ wx, Only [] w1 wx → Calls Tryz.prog 56 #[.slice (some ⟨bm0, 0, none⟩) 1 1] wx _ from fun wx ho => clone1Mth (rowM bc0 2) wx ⟨bm0, 0, none⟩ 1 1 [()] rfl ((H.out.rdM.only HO.out).only ho) (by decide))
  clear hx
  go_cut [] (fun wx => ∃ bm cm, Row wx w.heap.size 74 [.slice none 0 0, .slice none 0 0, .slice (some ⟨bm, 0, none⟩) 1 cm, .int .i64 0] ∧ Row wx (w.heap.size + 1) 74 [.slice none 0 0, .slice none 0 0, .slice none 0 0, .int .i64 0] ∧ Blk wx bm (mR bc0 2) ∧ (1 ≤ cm ∧ cm ≤ 9223372036854775807) ∧ w.heap.size + 2 ≤ bm ∧ Only [] w wx)
  case first =>
    --<A
    go_region_with (first
        | (go_at_call 54; refine (cc _).mono ?_; rintro e wA ⟨rfl, eA⟩; subst eA)
        | (go_at_call 55; refine (ct _).mono ?_; rintro e wA ⟨rfl, eA⟩; subst eA)
        | (go_at_call 56; refine (HM.out _ (Only.refl _ _).drew).mono ?_; rintro e w2 ⟨v2, rfl, hv2, ho2⟩; obtain ⟨bm, cm, rfl, hg2, hc2, hc3, hB2⟩ := Own.blk (rowM bc0 2) (by decide) hv2 (by simp); have HV2 := Lib.hid hg2; have HB2 := Lib.hid hB2; have HC2 := Lib.hid (And.intro hc2 hc3); have HO2 := Lib.hid ho2; have hx2 := ho2.row HX.out.drew (by simp); have x0 := hx2.cell 0 rfl; have x1 := hx2.cell 1 rfl; have x2 := hx2.cell 2 rfl; have f0 := hx2.free 0; have f1 := hx2.free 1; have f2 := hx2.free 2; clear hv2 ho2 hg2 hB2 hc2 hc3; have HX2 := Lib.hid hx2; clear hx2; simp only [List.length_cons, List.length_nil, Nat.zero_add]))
    all_goals
      go_wp2_with fail
      go_meet
      have hlt : w.heap.size + 2 ≤ bm := Nat.le_trans (Nat.le_of_eq HSZ.out) HV2.out
      exact ⟨bm, cm, ((HX2.out.set 0 _).set 1 _).set 2 _, ((((HO2.out.row HT.out.drew (by simp)).other (a := ⟨w.heap.size, 0, none⟩) (by simp) _).other (a := ⟨w.heap.size, 1, none⟩) (by simp) _).other (a := ⟨w.heap.size, 2, none⟩) (by simp) _),
        ((((HB2.out.cast (by simp)).other (a := ⟨w.heap.size, 0, none⟩) (by simp; omega) _).other (a := ⟨w.heap.size, 1, none⟩) (by simp; omega) _).other (a := ⟨w.heap.size, 2, none⟩) (by simp; omega) _), HC2.out, hlt,
        ((((HO.out.drew.trans HO2.out (by simp)).set (.inr (Nat.le_refl _)) _).set (.inr (Nat.le_refl _)) _).set (.inr (Nat.le_refl _)) _)⟩
    --A>
  case rest =>
    obtain ⟨bm, cm, hx, ht, hb, hcm, hgm, ho⟩ := hcut
    obtain ⟨w2, rfl⟩ : ∃ z, z = wc := ⟨_, rfl⟩
    clear x0 x1 x2 f0 f1 f2 HX HM HSZ HO HT
    have HX := Lib.hid hx
    have HT := Lib.hid ht
    have HB := Lib.hid hb
    have HCM := Lib.hid hcm
    have HGM := Lib.hid hgm
    have HO := Lib.hid ho
    have x0 := hx.cell 0 rfl
    have x2 := hx.cell 2 rfl
    clear hx ht hb hcm hgm ho cc
    go_wp2_with fail
    go_loopw [22] (fun i wr => i = .int .i64 0 ∧ wr = w2) (fun _ _ => 0)
    case atStart => exact ⟨rfl, rfl⟩
    case round =>
      obtain ⟨rfl, e2⟩ := hrel
      subst e2
      go_wp2_with fail
      go_loopw [49] (fun i wq => ∃ k : Int, i = .int .i64 k ∧ ((k = 0 ∧ wq = wr) ∨ (k = 1 ∧ ∃ bc cc, Row wq w.heap.size 74 [.slice none 0 0, .slice none 0 0, .slice (some ⟨bm, 0, none⟩) 1 cm, .int .i64 0] ∧ Row wq (w.heap.size + 1) 74 [.slice none 0 0, .slice none 0 0, .slice none 0 0, .int .i64 0] ∧ CM wq bm cm bc cc ∧ w.heap.size ≤ bc ∧ Only [] w wq))) (fun i _ => (1 - intOf i).toNat)
      case atStart => exact ⟨0, rfl, .inl ⟨rfl, rfl⟩⟩
      case round =>
        obtain ⟨k, rfl, ⟨rfl, e3⟩ | ⟨rfl, bc, cc, hx, ht, hC, hgc, ho⟩⟩ := hrel
        · subst e3
          have HM := Lib.hid (show ∀ wx, Only [] wr wx → Calls Tryz.prog 57 #[.slice (some ⟨bc0, 0, none⟩) 2 2] wx _ from fun wx ho => clone1Ins rowIns wx ⟨bc0, 0, none⟩ 2 2 helloC rfl ((H.out.rdC.only HO.out).only ho) (by decide))
          have b2 := HB.out.at_ 2 _ rfl
          have b3 := HB.out.at_ 3 _ rfl
          have b6 := HB.out.at_ 6 _ rfl
          have g2 := HB.out.fr 2
          have g3 := HB.out.fr 3
          have g6 := HB.out.fr 6
          go_upto_region 12 with fail
          --<B
          go_region_with (first
            | (go_at_call 55; refine (ct _).mono ?_; rintro e wA ⟨rfl, eA⟩; subst eA)
            | (go_at_call 57; refine (HM.out _ (Only.refl _ _).drew).mono ?_; rintro e w4 ⟨v4, rfl, hv4, ho4⟩; obtain ⟨bc, cc, rfl, hg4, hc4, hc5, hB4⟩ := Own.blk rowIns (by decide) hv4 (by decide); have HV4 := Lib.hid hg4; have HB4 := Lib.hid hB4; have HC4 := Lib.hid (And.intro hc4 hc5); have HO4 := Lib.hid ho4; have hb4 := HB.out.only0 ((Only.refl [] wr).drew.trans ho4 (by simp)); have HBM4 := Lib.hid hb4; have b2 := hb4.at_ 2 _ rfl; have b3 := hb4.at_ 3 _ rfl; have b6 := hb4.at_ 6 _ rfl; have g2 := hb4.fr 2; have g3 := hb4.fr 3; have g6 := hb4.fr 6; clear hv4 ho4 hg4 hB4 hc4 hc5 hb4; simp only [helloC, List.length_cons, List.length_nil, Nat.zero_add, Nat.reduceAdd]))
          all_goals
            go_wp2_with fail
            go_roundw
            case rel =>
              have hlt := HB.out.lt
              have hlt4 : wr.heap.size ≤ bc := HV4.out
              have hgm := HGM.out
              have hz := HO.out.size
              have hOD : Only [] wr w4 := (Only.refl [] wr).drew.trans HO4.out (by simp)
              exact ⟨1, rfl, .inr ⟨rfl, bc, cc, (((hOD.row HX.out (by simp)).other (a := ⟨bm, 2, none⟩) (by simp; omega) _).other (a := ⟨bm, 3, none⟩) (by simp; omega) _).other (a := ⟨bm, 6, none⟩) (by simp; omega) _, (((hOD.row HT.out (by simp)).other (a := ⟨bm, 2, none⟩) (by simp; omega) _).other (a := ⟨bm, 3, none⟩) (by simp; omega) _).other (a := ⟨bm, 6, none⟩) (by simp; omega) _,
                ⟨(((HBM4.out.set 2 _).set 3 _).set 6 _).cast rfl, (((HB4.out.cast rfl).other (a := ⟨bm, 2, none⟩) (by simp; omega) _).other (a := ⟨bm, 3, none⟩) (by simp; omega) _).other (a := ⟨bm, 6, none⟩) (by simp; omega) _, by omega, HCM.out, HC4.out⟩, by omega,
                (((HO.out.trans hOD (by simp)).set (.inr (by simp; omega)) _).set (.inr (by simp; omega)) _).set (.inr (by simp; omega)) _⟩⟩
            case measure => simp only [intOf]; decide
          --B>
        · clear x0 x2 ct
          have HTT := Lib.hid ht
          have HCC := Lib.hid hC
          have HGC := Lib.hid hgc
          have HOO := Lib.hid ho
          have y0 := hx.cell 0 rfl
          have y1 := hx.cell 1 rfl
          have y2 := hx.cell 2 rfl
          have y3 := hx.cell 3 rfl
          have t0 := ht.cell 0 rfl
          have t1 := ht.cell 1 rfl
          have t2 := ht.cell 2 rfl
          have t3 := ht.cell 3 rfl
          have u0 := ht.free 0
          have u1 := ht.free 1
          have u2 := ht.free 2
          have u3 := ht.free 3
          clear hx ht hC hgc ho
          go_wp2_with fail
          have hne : w.heap.size + 1 ≠ bm ∧ w.heap.size + 1 ≠ bc := by
            have h1 := HGM.out
            have h2 := HCC.out.c.lt
            refine ⟨by omega, fun e => ?_⟩
            have h3 := HCC.out.c.at_ 1 _ rfl
            have h4 := HTT.out.cell 1 rfl
            rw [← e, h4] at h3
            cases h3
          refine bodyPost_ret (results_cell_row rfl _ _ (w.heap.size + 1) 74 _ (0, 0) _ rfl ((((HTT.out.set 0 _).set 1 _).set 2 _).set 3 _) Tryz.underlying74 rfl (by kernel_rfl)) rfl ?_
          have ho4 := ((((Only.refl [w.heap.size + 1] wr).set (p := ⟨w.heap.size + 1, 0, none⟩) (.inl (by simp)) (.slice none 0 0)).set (p := ⟨w.heap.size + 1, 1, none⟩) (.inl (by simp)) (.slice none 0 0)).set (p := ⟨w.heap.size + 1, 2, none⟩) (.inl (by simp)) (.slice (some ⟨bm, 0, none⟩) 1 cm)).set (p := ⟨w.heap.size + 1, 3, none⟩) (.inl (by simp)) (.int .i64 0)
          exact hR.out _ _ ⟨bm, cm, bc, cc, rfl, HCC.out.only ho4 (by simpa using fun h => hne.1 h.symm) (by simpa using fun h => hne.2 h.symm), by have := HGM.out; omega, HGC.out, HOO.out.trans ho4 (by simp)⟩
end Go.Proofs.YtkacgbigeobncaaGreat
