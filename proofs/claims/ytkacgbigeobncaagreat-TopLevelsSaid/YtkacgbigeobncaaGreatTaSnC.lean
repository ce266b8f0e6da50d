/- Lemmas of this claim. -/
import Derived.Test.YtkacgbigeobncaaGreatTaSnB
namespace Go.Proofs.YtkacgbigeobncaaGreat
open Go.RowKit Go.Maps
set_option maxHeartbeats 6400000
set_option maxRecDepth 100000
set_option linter.unusedVariables false
set_option linter.unusedSimpArgs false
def helloC : List Ins := [⟨1, 7, 0⟩, ⟨27, 1, 0⟩]
def helloM : Mod := ⟨[], [], [⟨⟨#[]⟩, -1, [], [], ⟨0, 0⟩, helloC⟩], 0⟩
theorem hello_valid : helloM.valid = true := by decide +kernel
theorem results0 (w : World) (c : Int) : Calls Tryz.prog 81 #[.agg #[.int .i64 0, .int .i64 c]] w (Ret w (.slice none 0 0)) := by
  refine calls_abs fun R hR => ?_
  go_enter Tryz.func81, Tryz.ntmps81
  go_wp2_with fail
  exact hR.out _ _ ⟨rfl, (Only.refl _ _).alloc _⟩
structure SV where
  a : Option Addr
  n : Nat
  c : Nat
def SV.row (x : SV) : List Value := [.slice x.a x.n x.c]
theorem rowSV : RowZ SV.row 1 := ⟨fun _ => rfl, fun x u hu => by simp [SV.row] at hu; subst hu; rfl⟩
theorem tySV : TyZ 128 66 1 (.slice none 0 0) 24 := ⟨Tryz.underlying128, by kernel_rfl, rfl, by decide⟩
def HelloC (w : World) (bc oc : Nat) : Prop := ∀ wr, Only [] w wr → wr.cell? ⟨bc, oc, none⟩ = some (.int .i64 1) ∧ wr.cell? ⟨bc, oc + 1, none⟩ = some (.int .i64 7) ∧ wr.cell? ⟨bc, oc + 2, none⟩ = some (.int .i64 0) ∧ wr.cell? ⟨bc, oc + 3, none⟩ = some (.int .i64 27) ∧ wr.cell? ⟨bc, oc + 4, none⟩ = some (.int .i64 1) ∧ wr.cell? ⟨bc, oc + 5, none⟩ = some (.int .i64 0)
theorem helloC_of {w : World} {v : Value} (h : RdI w v helloC) : ∃ bc oc cc, v = .slice (some ⟨bc, oc, none⟩) 2 cc ∧ 2 ≤ cc ∧ HelloC w bc oc := by
  obtain ⟨a, c, rfl⟩ := h.len
  obtain ⟨b, o, rfl, hc⟩ := h.at (by decide)
  refine ⟨b, o, c, rfl, h.cap, fun wr ho => ?_⟩
  have h0 := fun r y => hc wr ho 0 ⟨1, 7, 0⟩ rfl r y
  have h1 := fun r y => hc wr ho 1 ⟨27, 1, 0⟩ rfl r y
  exact ⟨h0 0 _ rfl, h0 1 _ rfl, h0 2 _ rfl, h1 0 _ rfl, h1 1 _ rfl, h1 2 _ rfl⟩
def Hk (wr : World) (cb : Nat) (vc vs vm lv st : Value) (k : Int) : Prop :=
  (k = 0 ∧ Row wr cb 181 (ckR vc vs vm 0 lv (.slice none 0 0))) ∨
  (k = 1 ∧ ∃ b cap, Row wr cb 181 (ckR vc vs vm 0 lv (.slice (some ⟨b, 0, none⟩) 1 cap)) ∧ Blk wr b [.int .i64 1, .int .i64 0] ∧ (1 ≤ cap ∧ cap ≤ 9223372036854775807) ∧ st.ownBlock ≠ some b) ∨
  (k = 2 ∧ ∃ b, Row wr cb 181 (ckR vc vs vm 0 lv (.slice (some ⟨b, 0, none⟩) 0 0)))
theorem method_hello (w : World) (X : MX) (h : ModA w X helloM) : Calls Tryz.prog 53 #[modV X helloM, .int .i64 0] w fun e w' => ∃ v, e = .returned (.tuple #[v, .int .i64 0, .int .i64 0]) ∧ Only [] w w' := by
  refine calls_abs fun R hR => ?_
  obtain ⟨vc, vs, vm, cx, mx⟩ := X
  obtain ⟨bm, om, cm, pv, lv0, cv, hvm, -, -, hcv, hcell⟩ := h.meAt (k := 0) (by decide)
  obtain ⟨bc, oc, cc, rfl, hcc, hC⟩ := helloC_of hcv
  simp only at hvm
  subst hvm
  have HM := Lib.hid hcell
  have HC := Lib.hid hC
  have HMA := Lib.hid h
  have cl := fun wx (ho : Only [] w wx) => locals_good wx _ helloM (h.only ho) hello_valid 0 (by decide) (by decide) (by decide) (by decide)
  clear h hcv hcell hC
  unfold modV at cl ⊢
  dsimp only at cl ⊢
  change Calls _ _ #[.agg #[vc, vs, .slice (some ⟨bm, om, none⟩) 1 cm, .int .i64 0], .int .i64 0] w R
  have HO1 := Lib.hid ((Only.refl [] w).alloc (.cells #[vc, vs, .slice (some ⟨bm, om, none⟩) 1 cm, .int .i64 0] 74))
  have cl1 := cl _ HO1.out
  clear cl
  go_enter Tryz.func53, Tryz.ntmps53
  go_wp2_with fail
  refine cl1.mono ?_
  rintro e w2 ⟨lv, rfl, hlv, ho2⟩
  obtain ⟨la, lc, rfl⟩ := hlv.len
  have HO2 := Lib.hid (HO1.out.trans ho2 (by simp))
  rw [show (helloM.localsOf 0).length = 0 from rfl] at *
  have hb2 := ho2.row (Row.new w 74 [vc, vs, .slice (some ⟨bm, om, none⟩) 1 cm, .int .i64 0]) (by simp)
  have e0 := hb2.cell 0 rfl
  have e1 := hb2.cell 1 rfl
  have e2 := hb2.cell 2 rfl
  have e3 := hb2.cell 3 rfl
  clear cl1 hlv ho2 hb2
  go_upto_region 3 with fail
  have HR3 := Lib.hid (Row.new w2 181 (ckR vc vs (.slice (some ⟨bm, om, none⟩) 1 cm) 0 (.slice la 0 lc) (.slice none 0 0)))
  have HO3 := Lib.hid (HO2.out.alloc (.cells (ckR vc vs (.slice (some ⟨bm, om, none⟩) 1 cm) 0 (.slice la 0 lc) (.slice none 0 0)).toArray 181))
  have hsz2 := HO2.out.size
  obtain ⟨cb, hcb⟩ : ∃ z, z = w2.heap.size := ⟨_, rfl⟩
  rw [← hcb] at hsz2 HR3 ⊢
  have HCB := Lib.hid hsz2
  unfold ckR at HR3 HO3
  obtain ⟨w3, hw3⟩ : ∃ z, z = w2.alloc (.cells #[vc, vs, .slice (some ⟨bm, om, none⟩) 1 cm, .int .i64 0, .slice la 0 lc, .slice none 0 0, .slice none 0 0, .int .i64 0] 181) := ⟨_, rfl⟩
  have HSZ := Lib.hid (show cb < w3.heap.size by rw [hw3, hcb]; simp)
  replace HR3 : Hid (Row w3 cb 181 (ckR vc vs (.slice (some ⟨bm, om, none⟩) 1 cm) 0 (.slice la 0 lc) (.slice none 0 0))) := by rw [hw3]; exact HR3
  replace HO3 : Hid (Only [] w w3) := by rw [hw3]; exact HO3
  have e2 : w3.cell? ⟨w.heap.size, 2, none⟩ = some (.slice (some ⟨bm, om, none⟩) 1 cm) := by rw [hw3, World.cell?_alloc_past _ _ _ (World.block_lt_of_cell? w2 _ e2)]; exact e2
  rw [← hw3]
  clear e0 e1 e3 hsz2 hw3 hcb
  obtain ⟨-, -, -, -, m4, m5, m6⟩ := HM.out w3 HO3.out
  simp only [Nat.zero_mul, Nat.add_zero] at m4 m5 m6
  replace m6 : w3.cell? ⟨bm, om + 6, none⟩ = some (.slice (some ⟨bc, oc, none⟩) 2 cc) := m6
  clear m4 m5
  have cr := fun wx => results0 wx 0
  obtain ⟨vm, hvm⟩ : ∃ z, z = Value.slice (some ⟨bm, om, none⟩) 1 cm := ⟨_, rfl⟩
  rw [← hvm] at HR3
  replace hvm := Lib.hid hvm
  go_wp2_with fail
  go_loopw [33, 4] (fun i st wr => ∃ k : Int, i = .int .i64 k ∧ Hk wr cb vc vs vm (.slice la 0 lc) st k ∧ (∃ l : List SV, Own 66 SV.row 1 wr w3.heap.size st l ∧ (l.length : Int) = k) ∧ Only [] w wr ∧ w3.heap.size ≤ wr.heap.size) (fun i _ _ => (2 - intOf i).toNat)
  case atStart => exact ⟨0, rfl, .inl ⟨rfl, HR3.out⟩, ⟨[], Own.nil, rfl⟩, HO3.out, Nat.le_refl _⟩
  case round =>
    obtain ⟨k, rfl, hH, ⟨l, hl, hlk⟩, ho, hsz⟩ := hrel
    clear e2 m6
    have HO := Lib.hid ho
    have HS := Lib.hid hsz
    have HLK := Lib.hid hlk
    obtain ⟨sa, sc, rfl⟩ := hl.len
    obtain ⟨c0, c1, c2, c3, c4, c5⟩ := HC.out wr ho
    clear ho hsz
    obtain ⟨rfl, hr⟩ | ⟨rfl, b, cap, hr, hBB, hcap, hnb⟩ | ⟨rfl, b, hr⟩ := hH
    · obtain hl0 : l.length = 0 := by omega
      rw [hl0] at hl ⊢
      have HL := Lib.hid hl
      clear hlk hl hl0
      have HR0 := Lib.hid hr
      clear hr c3 c4 c5
      go_upto_region 7 with fail
      have HO5 := Lib.hid (HO.out.alloc (.cells #[.int .i64 1, .int .i64 7, .int .i64 0] 64))
      have hd5 := Row.new wr 64 [.int .i64 1, .int .i64 7, .int .i64 0]
      have hr5 := HR0.out.alloc (.cells #[.int .i64 1, .int .i64 7, .int .i64 0] 64)
      have HL5 := Lib.hid (HL.out.alloc (.cells #[.int .i64 1, .int .i64 7, .int .i64 0] 64))
      have HS5 := Lib.hid (show w3.heap.size ≤ (wr.alloc (.cells #[.int .i64 1, .int .i64 7, .int .i64 0] 64)).heap.size by have := HS.out; simp; omega)
      simp only [List.toArray] at hd5
      obtain ⟨d, hd⟩ : ∃ z, z = wr.heap.size := ⟨_, rfl⟩
      rw [← hd] at hd5 ⊢
      generalize wr.alloc (.cells #[.int .i64 1, .int .i64 7, .int .i64 0] 64) = w5 at *
      have HD5 := Lib.hid hd5
      have HR5 := Lib.hid hr5
      have p5 := hr5.cell 5 rfl
      have hdcb : d ≠ cb := by have := HR0.out.lt; omega
      have HDC := Lib.hid hdcb
      have HDE := Lib.hid hd
      clear hd hr5 hd5 hdcb
      have cl := clone0Ty w5
      go_wp2_with fail
      refine cl.mono ?_
      rintro e w6 ⟨rfl, e6⟩
      subst e6
      have HO6 := HO5
      have HL6 := HL5
      have HR6 := HR5
      have HD6 := HD5
      have HS6 := HS5
      clear cl
      obtain ⟨sv, hsv⟩ : ∃ z : SV, z = ⟨none, 0, 0⟩ := ⟨_, rfl⟩
      have HSV := Lib.hid (show sv.row = [.slice none 0 0] by rw [hsv]; rfl)
      clear hsv
      have HRD := Lib.hid (rd_one rowSV w5 66 sv)
      rw [HSV.out] at HRD
      go_wp2_with (at_builtin; go_loud (refine append_own tySV rowSV rfl _ _ rfl w3.heap.size _ l rfl (HL6.out.alloc _) _ [sv] rfl HRD.out ?c1 ?c2 ?c3 ?c4))
      case c1 => have := HLK.out; rw [List.length_cons, List.length_nil]; omega
      case c2 => have := HLK.out; rw [List.length_cons, List.length_nil]; omega
      case c3 => have := HS6.out; simp; omega
      case c4 =>
        intro v7 w7 hv7 ho7 hb7
        have hoA := (Only.refl [] w5).alloc (.cells (#[.slice none 0 0] : Array Value) 66)
        have hgt : ∀ k, (Value.slice sa 0 sc).ownBlock = some k → w3.heap.size ≤ k ∧ k < d := fun k hk => by
          have h1 := HL.out.own k hk
          have h2 := HDE.out
          omega
        have HO7 := Lib.hid ((HO6.out.trans hoA (by simp)).trans ho7 (fun x hx => .inr (by
          have := hgt x (by simpa using hx)
          have h1 := HO3.out.size
          omega)))
        have hcbn : cb ∉ (Value.slice sa 0 sc).ownBlock.toList := fun hx => by
          have := hgt cb (by simpa using hx)
          have := HSZ.out
          omega
        have hdn : d ∉ (Value.slice sa 0 sc).ownBlock.toList := fun hx => by
          have := hgt d (by simpa using hx)
          omega
        have hr7 := ho7.row (HR6.out.alloc _) hcbn
        have hd7 := ho7.row (HD6.out.alloc _) hdn
        have HS7 := Lib.hid (Nat.le_trans HS6.out (Nat.le_trans hoA.size ho7.size))
        have HL7 := Lib.hid hv7
        have HLL := Lib.hid (show (l ++ [sv]).length = 1 by have := HLK.out; rw [List.length_append, List.length_cons, List.length_nil]; omega)
        obtain ⟨a7, c7, rfl⟩ := hv7.len
        rw [HLL.out] at HL7 ⊢
        have d0 := hd7.cell 0 rfl
        have d1 := hd7.cell 1 rfl
        have d2 := hd7.cell 2 rfl
        have HR7 := Lib.hid hr7
        have co := opens_any w7 1
        rw [show opens 1 = false from rfl] at co
        have cs := simplePush w7 cb vc vs vm 0 (.slice la 0 lc) HR7.out 7 0
        have HN7 := Lib.hid (show (Value.slice a7 1 c7).ownBlock ≠ some cb by
          intro hx
          have h1 := (HL7.out.own cb hx).1
          have h2 := HSZ.out
          omega)
        have HK7 := Lib.hid (show ∀ k, (Value.slice a7 1 c7).ownBlock = some k → k < w7.heap.size from fun k hk => (HL7.out.own k hk).2)
        clear hv7 ho7 hb7 hoA hgt hcbn hdn hr7 hd7
        go_wp2_with fail
        refine co.mono ?_
        rintro e w8 ⟨rfl, e8⟩
        subst e8
        clear co
        go_wp2_with fail
        refine cs.mono ?_
        rintro e w8 ⟨rfl, b8, cap8, h1, h2, h3, h4, h5⟩
        have HR8 := Lib.hid h1
        have p7 := h1.cell 7 rfl
        have HO8 := Lib.hid (HO7.out.trans h5 (fun x hx => .inr (by simp at hx; have := HCB.out; omega)))
        have HL8 := Lib.hid (HL7.out.only h5 (fun k hk hx => by simp at hx; subst hx; exact HN7.out hk))
        have HS8 := Lib.hid (Nat.le_trans HS7.out h5.size)
        have HB8 := Lib.hid (And.intro h2 (And.intro h3 (show (Value.slice a7 1 c7).ownBlock ≠ some b8 from fun hx => by have := HK7.out b8 hx; omega)))
        clear cs h2 h3 h4 h1 h5 d0 d1 d2
        go_wp2_with fail
        go_roundw
        case rel => exact ⟨1, rfl, .inr (.inl ⟨rfl, b8, cap8, HR8.out, HB8.out.1, HB8.out.2.1, HB8.out.2.2⟩), ⟨l ++ [sv], HL8.out, by rw [HLL.out]; rfl⟩, HO8.out, HS8.out⟩
        case measure => simp only [intOf]; decide
    · obtain hl0 : l.length = 1 := by omega
      rw [hl0] at hl hnb ⊢
      have HL := Lib.hid hl
      clear hlk hl hl0
      have HR0 := Lib.hid hr
      clear hr c0 c1 c2
      have HBB := Lib.hid hBB
      have HCP := Lib.hid hcap
      have HNB := Lib.hid hnb
      clear hBB hcap hnb
      go_upto_region 7 with fail
      have HO5 := Lib.hid (HO.out.alloc (.cells #[.int .i64 27, .int .i64 1, .int .i64 0] 64))
      have hd5 := Row.new wr 64 [.int .i64 27, .int .i64 1, .int .i64 0]
      have hr5 := HR0.out.alloc (.cells #[.int .i64 27, .int .i64 1, .int .i64 0] 64)
      have HL5 := Lib.hid (HL.out.alloc (.cells #[.int .i64 27, .int .i64 1, .int .i64 0] 64))
      have HS5 := Lib.hid (show w3.heap.size ≤ (wr.alloc (.cells #[.int .i64 27, .int .i64 1, .int .i64 0] 64)).heap.size by have := HS.out; simp; omega)
      have HBB5 := Lib.hid (HBB.out.alloc (.cells #[.int .i64 27, .int .i64 1, .int .i64 0] 64))
      simp only [List.toArray] at hd5
      obtain ⟨d, hd⟩ : ∃ z, z = wr.heap.size := ⟨_, rfl⟩
      rw [← hd] at hd5 ⊢
      generalize wr.alloc (.cells #[.int .i64 27, .int .i64 1, .int .i64 0] 64) = w5 at *
      have HD5 := Lib.hid hd5
      have HR5 := Lib.hid hr5
      have p5 := hr5.cell 5 rfl
      have hdcb : d ≠ cb := by have := HR0.out.lt; omega
      have HDC := Lib.hid hdcb
      have HDE := Lib.hid hd
      clear hd hr5 hd5 hdcb
      have cl := clone1Ty rowTy w5 ⟨b, 0, none⟩ 1 cap [⟨1, 0⟩] rfl (HBB5.out.rd (l := [(⟨1, 0⟩ : Ty)]) rowTy HCP.out) (by decide)
      go_wp2_with fail
      refine cl.mono ?_
      rintro e w6 ⟨v6, rfl, hv6, ho6⟩
      have HO6 := Lib.hid (HO5.out.trans ho6 (by simp))
      have HL6 := Lib.hid (HL5.out.only0 ho6)
      have HR6 := Lib.hid (ho6.row HR5.out (by simp))
      have HD6 := Lib.hid (ho6.row HD5.out (by simp))
      have HS6 := Lib.hid (Nat.le_trans HS5.out ho6.size)
      have HBB6 := Lib.hid (HBB5.out.only0 ho6)
      obtain ⟨va6, vc6, rfl⟩ := hv6.len
      simp only [List.length_cons, List.length_nil, Nat.zero_add]
      clear cl hv6 ho6 p5
      obtain ⟨sv, hsv⟩ : ∃ z : SV, z = ⟨va6, 1, vc6⟩ := ⟨_, rfl⟩
      have HSV := Lib.hid (show sv.row = [.slice va6 1 vc6] by rw [hsv]; rfl)
      clear hsv
      have HRD := Lib.hid (rd_one rowSV w6 66 sv)
      rw [HSV.out] at HRD
      go_wp2_with (at_builtin; go_loud (refine append_own tySV rowSV rfl _ _ rfl w3.heap.size _ l rfl (HL6.out.alloc _) _ [sv] rfl HRD.out ?c1 ?c2 ?c3 ?c4))
      case c1 => have := HLK.out; rw [List.length_cons, List.length_nil]; omega
      case c2 => have := HLK.out; rw [List.length_cons, List.length_nil]; omega
      case c3 => have := HS6.out; simp; omega
      case c4 =>
        intro v7 w7 hv7 ho7 hb7
        have hoA := (Only.refl [] w6).alloc (.cells (#[.slice va6 1 vc6] : Array Value) 66)
        have hgt : ∀ k, (Value.slice sa 1 sc).ownBlock = some k → w3.heap.size ≤ k ∧ k < d := fun k hk => by
          have h1 := HL.out.own k hk
          have h2 := HDE.out
          omega
        have HO7 := Lib.hid ((HO6.out.trans hoA (by simp)).trans ho7 (fun x hx => .inr (by
          have := hgt x (by simpa using hx)
          have h1 := HO3.out.size
          omega)))
        have hcbn : cb ∉ (Value.slice sa 1 sc).ownBlock.toList := fun hx => by
          have := hgt cb (by simpa using hx)
          have := HSZ.out
          omega
        have hdn : d ∉ (Value.slice sa 1 sc).ownBlock.toList := fun hx => by
          have := hgt d (by simpa using hx)
          omega
        have hr7 := ho7.row (HR6.out.alloc _) hcbn
        have hd7 := ho7.row (HD6.out.alloc _) hdn
        have HS7 := Lib.hid (Nat.le_trans HS6.out (Nat.le_trans hoA.size ho7.size))
        have HL7 := Lib.hid hv7
        have HLL := Lib.hid (show (l ++ [sv]).length = 2 by have := HLK.out; rw [List.length_append, List.length_cons, List.length_nil]; omega)
        have HBB7 := Lib.hid ((HBB6.out.alloc _).only ho7 (fun hx => HNB.out (by simpa using hx)))
        obtain ⟨a7, c7, rfl⟩ := hv7.len
        rw [HLL.out] at HL7 ⊢
        have d0 := hd7.cell 0 rfl
        have d1 := hd7.cell 1 rfl
        have d2 := hd7.cell 2 rfl
        have HR7 := Lib.hid hr7
        have co := opens_any w7 27
        rw [show opens 27 = false from rfl] at co
        have cs := simpleEmit w7 cb vc vs vm 0 (.slice la 0 lc) b cap 1 0 HR7.out HBB7.out HCP.out
        have HN7 := Lib.hid (show (Value.slice a7 2 c7).ownBlock ≠ some cb by
          intro hx
          have h1 := (HL7.out.own cb hx).1
          have h2 := HSZ.out
          omega)
        have HK7 := Lib.hid (show ∀ k, (Value.slice a7 2 c7).ownBlock = some k → k < w7.heap.size from fun k hk => (HL7.out.own k hk).2)
        clear hv7 ho7 hb7 hoA hgt hcbn hdn hr7 hd7
        go_wp2_with fail
        refine co.mono ?_
        rintro e w8 ⟨rfl, e8⟩
        subst e8
        clear co
        go_wp2_with fail
        refine cs.mono ?_
        rintro e w8 ⟨rfl, h1, h5⟩
        have HR8 := Lib.hid h1
        have p7 := h1.cell 7 rfl
        have HO8 := Lib.hid (HO7.out.trans h5 (fun x hx => .inr (by simp at hx; have := HCB.out; omega)))
        have HL8 := Lib.hid (HL7.out.only h5 (fun k hk hx => by simp at hx; subst hx; exact HN7.out hk))
        have HS8 := Lib.hid (Nat.le_trans HS7.out h5.size)
        clear cs h1 h5 d0 d1 d2
        go_wp2_with fail
        go_roundw
        case rel => exact ⟨2, rfl, .inr (.inr ⟨rfl, b, HR8.out⟩), ⟨l ++ [sv], HL8.out, by rw [HLL.out]; rfl⟩, HO8.out, HS8.out⟩
        case measure => simp only [intOf]; decide
    · obtain hl0 : l.length = 2 := by omega
      rw [hl0] at hl ⊢
      have HL := Lib.hid hl
      have HR0 := Lib.hid hr
      have p5 := hr.cell 5 rfl
      clear hlk hl hl0 hr c0 c1 c2 c3 c4 c5
      have cl := clone1Ty rowTy wr ⟨b, 0, none⟩ 0 0 [] rfl (.inr ⟨some ⟨b, 0, none⟩, 0, rfl, rfl, fun h => by cases h⟩) (by decide)
      go_wp2_with fail
      refine cl.mono ?_
      rintro e w6 ⟨v6, rfl, hv6, ho6⟩
      have HO6 := Lib.hid (HO.out.trans ho6 (by simp))
      have HL6 := Lib.hid (HL.out.only0 ho6)
      have HR6 := Lib.hid (ho6.row HR0.out (by simp))
      have HS6 := Lib.hid (Nat.le_trans HS.out ho6.size)
      obtain ⟨va6, vc6, rfl⟩ := hv6.len
      simp only [List.length_nil]
      clear cl hv6 ho6 p5
      obtain ⟨sv, hsv⟩ : ∃ z : SV, z = ⟨va6, 0, vc6⟩ := ⟨_, rfl⟩
      have HSV := Lib.hid (show sv.row = [.slice va6 0 vc6] by rw [hsv]; rfl)
      clear hsv
      have HRD := Lib.hid (rd_one rowSV w6 66 sv)
      rw [HSV.out] at HRD
      go_wp2_with (at_builtin; refine append_own tySV rowSV rfl _ _ rfl w3.heap.size _ l rfl (HL6.out.alloc _) _ [sv] rfl HRD.out ?c1 ?c2 ?c3 ?c4)
      case c1 => have := HLK.out; rw [List.length_cons, List.length_nil]; omega
      case c2 => have := HLK.out; rw [List.length_cons, List.length_nil]; omega
      case c3 => have := HS6.out; simp; omega
      case c4 =>
        intro v7 w7 hv7 ho7 hb7
        have hoA := (Only.refl [] w6).alloc (.cells (#[.slice va6 0 vc6] : Array Value) 66)
        have hgt : ∀ k, (Value.slice sa 2 sc).ownBlock = some k → w3.heap.size ≤ k := fun k hk => (HL.out.own k hk).1
        have HO7 := Lib.hid ((HO6.out.trans hoA (by simp)).trans ho7 (fun x hx => .inr (by
          have := hgt x (by simpa using hx)
          have h1 := HO3.out.size
          omega)))
        have hcbn : cb ∉ (Value.slice sa 2 sc).ownBlock.toList := fun hx => by
          have := hgt cb (by simpa using hx)
          have := HSZ.out
          omega
        have hr7 := ho7.row (HR6.out.alloc _) hcbn
        have HR7 := Lib.hid hr7
        obtain ⟨a7, c7, rfl⟩ := hv7.len
        have p5 := hr7.cell 5 rfl
        obtain ⟨-, -, -, -, m4, m5, -⟩ := HM.out w7 HO7.out
        simp only [Nat.zero_mul, Nat.add_zero] at m4 m5
        replace m4 : w7.cell? ⟨bm, om + 4, none⟩ = some (.int .i64 0) := m4
        replace m5 : w7.cell? ⟨bm, om + 5, none⟩ = some (.int .i64 0) := m5
        clear hv7 ho7 hb7 hoA hgt hcbn hr7
        go_wp2_with fail
        refine (cr _).mono ?_
        rintro e w8 ⟨rfl, ho8⟩
        have HO8 := Lib.hid (HO7.out.trans ho8 (by simp))
        have hr8 := ho8.row HR7.out (by simp)
        have p5 := hr8.cell 5 rfl
        clear cr ho8 hr8 m4 m5
        go_wp2_with fail
        go_quiet (fail)
        go_wp2_with fail
        refine bodyPost_ret (results_tmp3 rfl _ _ _) rfl ?_
        exact hR.out _ _ ⟨_, rfl, HO8.out.drewN _⟩
end Go.Proofs.YtkacgbigeobncaaGreat
