/- Lemmas of this claim. -/
import Derived.Test.YthflghdaejbdkaaGreatXfCyMp
namespace Go.Proofs.YthflghdaejbdkaaGreat
open Go.RowKit Go.Maps
set_option maxHeartbeats 12800000
set_option maxRecDepth 100000
set_option linter.unusedVariables false
section
variable {w0 w : World} {mb cb N : Nat} {d : Md} {x : MdX} {K K' : Nat → Prop} {φ φ' : Nat → Int} {c c' : Co}
theorem St.lost (h : St N d K φ c) (hs : Sf d K φ c') (hk : c'.Ok) : St (N + 2) { d with lost := true } K φ c' := ⟨hs.keeps fun p hp => .inl hp, hk, h.kl, by have := h.sl; show d.slots.length ≤ _; omega, h.ln⟩
theorem St.madeS (h : St N d K φ c) {v : Int} {bl : List Bool} (hs : Sf (d.made v bl) K' φ' c') (hk : c'.Ok) (h30 : d.keeps.length < 30) (hb : bl.length ≤ 48) : St (N + 2) (d.made v bl) K' φ' c' := by
  refine ⟨hs, hk, ?_, ?_, fun i => ?_⟩
  · show (d.keeps ++ [_]).length ≤ 30
    rw [List.length_append]; simp; omega
  · show (d.base ++ [_]).length ≤ _
    rw [List.length_append, base_len]
    have := h.sl
    unfold Md.nid
    split <;> simp <;> omega
  · rw [made_sl]
    split
    · rw [List.length_replicate]; exact hb
    · exact h.ln i
theorem nid_le (h : St N d K φ c) (hN : N ≤ 900) : d.slots.length ≤ 1000 := by have := h.sl; omega
theorem Acted.row {tl : List Asn} {N' : Nat} {lo : Bool} {p : Pm} {d' : Md} {c' : Co} {K' : Nat → Prop} {φ' : Nat → Int} (hf : ∃ x', Fam w0 w (Mdl mb d' x' ++ (CoA cb c' :: tl))) (hs : St N' d' K' φ' c') (hp : d'.lost = false → lo = false ∧ d'.pm = p) : Acted w0 mb cb N' lo p (.returned (.bool true)) w := by
  obtain ⟨x', hf⟩ := hf
  exact Acted.of hf hs hp
theorem act_0no (w : World) (hf : Fam w0 w (Mdl mb d x ++ [CoA cb c])) (hN : N ≤ 900) (h : St N d K φ c) (a b y : Int) (hno : ¬ (d.keeps.length < 30 ∧ 0 ≤ a ∧ a < 10 ∧ (fieldsL b y).length ≤ 7)) :
    Calls Tryz.prog 86 #[.pointer (some ⟨mb, 0, none⟩), .pointer (some ⟨cb, 0, none⟩), .agg #[.int .i64 0, .int .i64 a, .int .i64 b, .int .i64 y]] w (Acted w0 mb cb N d.lost (d.pm)) := by
  refine calls_abs fun R hR => ?_
  have hf1 : Fam w0 (w.alloc (.cells #[.int .i64 0, .int .i64 a, .int .i64 b, .int .i64 y] 80)) (Mdl mb d x ++ [CoA cb c, RowA w.heap.size 80 [.int .i64 0, .int .i64 a, .int .i64 b, .int .i64 y]]) := hf.addRow 80 [.int .i64 0, .int .i64 a, .int .i64 b, .int .i64 y]
  have rw0 := Row.new w 80 [.int .i64 0, .int .i64 a, .int .i64 b, .int .i64 y]
  have o0 := rw0.cell 0 rfl
  have o1 := rw0.cell 1 rfl
  have o2 := rw0.cell 2 rfl
  have o3 := rw0.cell 3 rfl
  obtain ⟨ka, kc, hkv⟩ := orow_len (Mdl.ke hf)
  have c2 := (Mdl.cells hf1).2.2.1
  rw [hkv] at c2
  have hkl := h.kl
  obtain ⟨kn, hkn⟩ : ∃ z, z = d.keeps.length := ⟨_, rfl⟩
  rw [← hkn] at c2 hkl
  have HF := Lib.hid hf1
  have HST := Lib.hid h
  have HKN := Lib.hid hkn
  obtain ⟨n, hn⟩ : ∃ z, z = (fieldsL b y).length := ⟨_, rfl⟩
  rw [← hkn, ← hn] at hno
  have HBL := Lib.hid hn.symm
  have HE : Hid (∀ wx, Only [] (w.alloc (.cells #[.int .i64 0, .int .i64 a, .int .i64 b, .int .i64 y] 80)) wx → R (.returned (.bool true)) wx) := fun wx ho => hR.out _ _ (Acted.of (hf1.only0 ho) h (fun e => ⟨e, rfl⟩))
  clear hf hf1 h rw0 hkv hkn hn HF HST HKN
  go_enter Tryz.func86, Tryz.ntmps86
  go_upto_region 1 with fail
  generalize (w.alloc (.cells #[.int .i64 0, .int .i64 a, .int .i64 b, .int .i64 y] 80)) = w1 at *
  generalize w.heap.size = wo at *
  have cf := fields_any w1 b y
  go_wp2_with fail
  refine cf.mono ?_
  rintro e w2 ⟨v, rfl, hb2, ho2⟩
  obtain ⟨va, vc, hv⟩ := hb2.len
  rw [HBL.out] at hv
  subst hv
  have HO2 := Lib.hid ho2
  have o1' := ho2.cell0 o1
  clear cf hb2 ho2 o0 o1 o2 o3
  by_cases h1 : kn < 30
  · have h1i : (kn : Int) < 30 := by omega
    by_cases h2 : 0 ≤ a
    · by_cases h3 : a < 10
      · have h4 : ¬ (n : Int) ≤ 7 := fun e => hno ⟨h1, h2, h3, by omega⟩
        have h4n : ¬ n ≤ 7 := by omega
        clear hno
        go_wp2_with fail
        exact HE.out _ HO2.out
      · clear hno
        go_wp2_with fail
        exact HE.out _ HO2.out
    · clear hno
      go_wp2_with fail
      exact HE.out _ HO2.out
  · have h1i : ¬ (kn : Int) < 30 := by omega
    clear hno
    go_wp2_with fail
    exact HE.out _ HO2.out
theorem act_0yes (w : World) (hf : Fam w0 w (Mdl mb d x ++ [CoA cb c])) (hN : N ≤ 900) (h : St N d K φ c) (a b y : Int) (h30 : d.keeps.length < 30) (ha0 : 0 ≤ a) (ha : a < 10) (hl7 : (fieldsL b y).length ≤ 7) :
    Calls Tryz.prog 86 #[.pointer (some ⟨mb, 0, none⟩), .pointer (some ⟨cb, 0, none⟩), .agg #[.int .i64 0, .int .i64 a, .int .i64 b, .int .i64 y]] w (Acted w0 mb cb (N + 2) d.lost (d.pm.made (fieldsL b y))) := by
  refine calls_abs fun R hR => ?_
  have hf1 : Fam w0 (w.alloc (.cells #[.int .i64 0, .int .i64 a, .int .i64 b, .int .i64 y] 80)) (Mdl mb d x ++ [CoA cb c, RowA w.heap.size 80 [.int .i64 0, .int .i64 a, .int .i64 b, .int .i64 y]]) := hf.addRow 80 [.int .i64 0, .int .i64 a, .int .i64 b, .int .i64 y]
  have rw0 := Row.new w 80 [.int .i64 0, .int .i64 a, .int .i64 b, .int .i64 y]
  have o0 := rw0.cell 0 rfl
  have o1 := rw0.cell 1 rfl
  have o2 := rw0.cell 2 rfl
  have o3 := rw0.cell 3 rfl
  obtain ⟨ka, kc, hkv⟩ := orow_len (Mdl.ke hf)
  have c2 := (Mdl.cells hf1).2.2.1
  rw [hkv] at c2
  have hkl := h.kl
  obtain ⟨kn, hkn⟩ : ∃ z, z = d.keeps.length := ⟨_, rfl⟩
  rw [← hkn] at c2 hkl
  have HF := Lib.hid hf1
  have HST := Lib.hid h
  have HKN := Lib.hid hkn
  obtain ⟨n, hn⟩ : ∃ z, z = (fieldsL b y).length := ⟨_, rfl⟩
  have hkey := h.sf.newObject h.ok a (fieldsL b y) (by omega)
  have hok2 := h.ok.newObject a (fieldsL b y)
  rw [← hkn] at h30
  rw [← hn] at hl7
  have h1i : (kn : Int) < 30 := by omega
  have hl7i : (n : Int) ≤ 7 := by omega
  have HBL := Lib.hid hn.symm
  have HK := Lib.hid hkey
  have HOK2 := Lib.hid hok2
  clear hf hf1 h rw0 hkv hkn hn hkey hok2
  go_enter Tryz.func86, Tryz.ntmps86
  go_upto_region 1 with fail
  generalize (w.alloc (.cells #[.int .i64 0, .int .i64 a, .int .i64 b, .int .i64 y] 80)) = w1 at *
  generalize w.heap.size = wo at *
  have cf := fields_any w1 b y
  go_wp2_with fail
  refine cf.mono ?_
  rintro e w2 ⟨v, rfl, hb2, ho2⟩
  obtain ⟨va, vc, hv⟩ := hb2.len
  rw [HBL.out] at hv
  subst hv
  have o1' := ho2.cell0 o1
  have F2 : Hid (Fam w0 w2 (Mdl mb d x ++ [CoA cb c, RowA wo 80 [.int .i64 0, .int .i64 a, .int .i64 b, .int .i64 y], BlsA (.slice va n vc) (fieldsL b y)])) := HF.out.addBls ho2 hb2
  have cn := cnewObject_rep w2 F2.out (i := 6) rfl HST.out.ok a va n vc (fieldsL b y) HBL.out (by omega) (fun wx hx => (hx.bls 8 rfl).barg)
  have HRF : Hid (d.refs.length = d.slots.length) := HST.out.sf.len
  obtain ⟨hh, hhh⟩ : ∃ z, z = (c.newObject a (fieldsL b y)).1 := ⟨_, rfl⟩
  obtain ⟨er, her⟩ : ∃ z, z = (c.newObject a (fieldsL b y)).2.1 := ⟨_, rfl⟩
  obtain ⟨c', hcc⟩ : ∃ z, z = (c.newObject a (fieldsL b y)).2.2 := ⟨_, rfl⟩
  rw [← hhh, ← her, ← hcc] at cn HK
  rw [← hcc] at HOK2
  clear cf hb2 ho2 o0 o1 o2 o3 HF F2 hhh her hcc
  go_wp2_with fail
  refine cn.mono ?_
  rintro e w3 ⟨rfl, hf3⟩
  have F3 : Hid (Fam w0 w3 (Mdl mb d x ++ ([CoA cb c', RowA wo 80 [.int .i64 0, .int .i64 a, .int .i64 b, .int .i64 y]] ++ [BlsA (.slice va n vc) (fieldsL b y)]))) := hf3
  clear cn hf3 o1'
  rcases HK.out with ⟨e0, K', φ', hsf⟩ | ⟨e14, hsf⟩
  · subst e0
    have cm := made_ok w3 va n vc (fieldsL b y) F3.out HBL.out (by omega) (nid_le HST.out hN) (by rw [← HKN.out]; omega) HRF.out hh
    have HS2 := Lib.hid (HST.out.madeS hsf HOK2.out (by rw [← HKN.out]; exact h30) (by rw [HBL.out]; omega))
    clear hsf HK F3
    go_wp2_with fail
    refine cm.mono ?_
    rintro e w4 ⟨rfl, hf4⟩
    have F4 := Lib.hid hf4
    clear cm hf4
    go_wp2_with fail
    exact hR.out _ _ (Acted.row F4.out HS2.out (fun e => ⟨e, pm_made _ _⟩))
  · subst e14
    have cm := made_full w3 F3.out va n vc hh
    have HS2 := Lib.hid (HST.out.lost hsf HOK2.out)
    clear hsf HK F3
    go_wp2_with fail
    refine cm.mono ?_
    rintro e w4 ⟨rfl, hf4⟩
    have F4 := Lib.hid hf4
    clear cm hf4
    go_wp2_with fail
    exact hR.out _ _ (Acted.row F4.out HS2.out (fun e => by cases e))
theorem act_1no (w : World) (hf : Fam w0 w (Mdl mb d x ++ [CoA cb c])) (hN : N ≤ 900) (h : St N d K φ c) (a b y : Int) (hno : ¬ (d.keeps.length < 30 ∧ 0 ≤ b ∧ b ≤ 48 ∧ (a = 3 ∨ a = 4))) :
    Calls Tryz.prog 86 #[.pointer (some ⟨mb, 0, none⟩), .pointer (some ⟨cb, 0, none⟩), .agg #[.int .i64 1, .int .i64 a, .int .i64 b, .int .i64 y]] w (Acted w0 mb cb N d.lost (d.pm)) := by
  refine calls_abs fun R hR => ?_
  have hf1 : Fam w0 (w.alloc (.cells #[.int .i64 1, .int .i64 a, .int .i64 b, .int .i64 y] 80)) (Mdl mb d x ++ [CoA cb c, RowA w.heap.size 80 [.int .i64 1, .int .i64 a, .int .i64 b, .int .i64 y]]) := hf.addRow 80 [.int .i64 1, .int .i64 a, .int .i64 b, .int .i64 y]
  have rw0 := Row.new w 80 [.int .i64 1, .int .i64 a, .int .i64 b, .int .i64 y]
  have o0 := rw0.cell 0 rfl
  have o1 := rw0.cell 1 rfl
  have o2 := rw0.cell 2 rfl
  have o3 := rw0.cell 3 rfl
  obtain ⟨ka, kc, hkv⟩ := orow_len (Mdl.ke hf)
  have c2 := (Mdl.cells hf1).2.2.1
  rw [hkv] at c2
  have hkl := h.kl
  obtain ⟨kn, hkn⟩ : ∃ z, z = d.keeps.length := ⟨_, rfl⟩
  rw [← hkn] at c2 hkl
  have HF := Lib.hid hf1
  have HST := Lib.hid h
  have HKN := Lib.hid hkn
  rw [← hkn] at hno
  have HE : Hid (R (.returned (.bool true)) (w.alloc (.cells #[.int .i64 1, .int .i64 a, .int .i64 b, .int .i64 y] 80))) := hR.out _ _ (Acted.of hf1 h (fun e => ⟨e, rfl⟩))
  clear hf hf1 h rw0 hkv hkn HF HST HKN
  go_enter Tryz.func86, Tryz.ntmps86
  go_upto_region 1 with fail
  generalize (w.alloc (.cells #[.int .i64 1, .int .i64 a, .int .i64 b, .int .i64 y] 80)) = w1 at *
  generalize w.heap.size = wo at *
  by_cases h1 : kn < 30
  · have h1i : (kn : Int) < 30 := by omega
    by_cases h2 : 0 ≤ b
    · by_cases h3 : b ≤ 48
      · have b3 : (a == 3) = false := by rw [beq_eq_false_iff_ne]; exact fun e => hno ⟨h1, h2, h3, .inl e⟩
        have b4 : (a == 4) = false := by rw [beq_eq_false_iff_ne]; exact fun e => hno ⟨h1, h2, h3, .inr e⟩
        clear hno
        go_wp2_with fail
        exact HE.out
      · clear hno
        go_wp2_with fail
        exact HE.out
    · clear hno
      go_wp2_with fail
      exact HE.out
  · have h1i : ¬ (kn : Int) < 30 := by omega
    clear hno
    go_wp2_with fail
    exact HE.out
theorem act_13 (w : World) (hf : Fam w0 w (Mdl mb d x ++ [CoA cb c])) (hN : N ≤ 900) (h : St N d K φ c) (b y : Int) (h30 : d.keeps.length < 30) (n : Nat) (hb : b = (n : Int)) (hn48 : n ≤ 48) :
    Calls Tryz.prog 86 #[.pointer (some ⟨mb, 0, none⟩), .pointer (some ⟨cb, 0, none⟩), .agg #[.int .i64 1, .int .i64 3, .int .i64 b, .int .i64 y]] w (Acted w0 mb cb (N + 2) d.lost (d.pm.made (List.replicate n false))) := by
  subst hb
  refine calls_abs fun R hR => ?_
  have hf1 : Fam w0 (w.alloc (.cells #[.int .i64 1, .int .i64 3, .int .i64 (n : Int), .int .i64 y] 80)) (Mdl mb d x ++ [CoA cb c, RowA w.heap.size 80 [.int .i64 1, .int .i64 3, .int .i64 (n : Int), .int .i64 y]]) := hf.addRow 80 [.int .i64 1, .int .i64 3, .int .i64 (n : Int), .int .i64 y]
  have rw0 := Row.new w 80 [.int .i64 1, .int .i64 3, .int .i64 (n : Int), .int .i64 y]
  have o0 := rw0.cell 0 rfl
  have o1 := rw0.cell 1 rfl
  have o2 := rw0.cell 2 rfl
  have o3 := rw0.cell 3 rfl
  obtain ⟨ka, kc, hkv⟩ := orow_len (Mdl.ke hf)
  have c2 := (Mdl.cells hf1).2.2.1
  rw [hkv] at c2
  have hkl := h.kl
  obtain ⟨kn, hkn⟩ : ∃ z, z = d.keeps.length := ⟨_, rfl⟩
  rw [← hkn] at c2 hkl
  have HF := Lib.hid hf1
  have HST := Lib.hid h
  have HKN := Lib.hid hkn
  have hkey := h.sf.newArray h.ok 3 (n : Int) (by omega) (by decide)
  have hok2 := h.ok.newArray 3 0 (n : Int)
  rw [show ((n : Int)).toNat = n by omega, show decide ((3 : Int) = 4) = false by decide] at hkey
  rw [← hkn] at h30
  have h1i : (kn : Int) < 30 := by omega
  have hn48i : (n : Int) ≤ 48 := by omega
  have hn0i : (0 : Int) ≤ (n : Int) := by omega
  have HK := Lib.hid hkey
  have HOK2 := Lib.hid hok2
  clear hf hf1 h rw0 hkv hkn hkey hok2
  go_enter Tryz.func86, Tryz.ntmps86
  go_upto_region 1 with fail
  generalize (w.alloc (.cells #[.int .i64 1, .int .i64 3, .int .i64 (n : Int), .int .i64 y] 80)) = w1 at *
  generalize w.heap.size = wo at *
  go_upto_region 12 with fail
  go_wp2_with fail
  go_loopw [11, 12] (fun vv iv wr => ∃ k : Nat, k ≤ n ∧ iv = .int .i64 k ∧ Bls wr w1.heap.size vv (List.replicate k false) ∧ Only [] w1 wr) (fun _ iv _ => n - (intOf iv).toNat)
  case atStart => exact ⟨0, by omega, rfl, Bls.nil _ _, Only.refl _ _⟩
  case round =>
    obtain ⟨k, hk, rfl, hi, ho⟩ := hrel
    have HI := Lib.hid hi
    have HO := Lib.hid ho
    obtain ⟨va, vc, hvv⟩ := hi.len
    rw [List.length_replicate] at hvv
    subst hvv
    have o1' := ho.cell0 o1
    have o2' := ho.cell0 o2
    clear hi ho
    by_cases hlt : k < n
    · have hlt1 : (k : Int) < (n : Int) := by omega
      have hk0 : (0 : Int) ≤ k := by omega
      go_wp2_with (at_builtin; refine append_bl1 rfl _ _ rfl w1.heap.size _ _ rfl (HI.out.alloc _) wr.heap.size false rfl ?c1 ?c2 ?c3 ?c4)
      case c1 => exact (Row.new wr _ [_]).cell 0 rfl
      case c2 => rw [List.length_replicate]; omega
      case c3 => have := HO.out.size; simp; omega
      case c4 =>
        intro v' w3 hi2 ho2 hb2
        have HO4 : Hid (Only [] w1 w3) := (HO.out.alloc _).trans ho2 (fun z hz => .inr (HI.out.own z (own_mem hz)).1)
        have HI4 : Hid (Bls w3 w1.heap.size v' (List.replicate (k + 1) false)) := by
          show Bls _ _ _ _
          rw [List.replicate_succ']
          exact hi2
        clear hi2 ho2 hb2 o1' o2'
        go_wp2_with fail
        exact ⟨⟨k + 1, by omega, by go_num, HI4.out, HO4.out⟩, by simp [intOf]; omega⟩
    · obtain rfl : k = n := by omega
      have hlt1 : ¬ (k : Int) < (k : Int) := by omega
      have F2 : Hid (Fam w0 wr (Mdl mb d x ++ [CoA cb c, RowA wo 80 [.int .i64 1, .int .i64 3, .int .i64 (k : Int), .int .i64 y], BlsA (.slice va k vc) (List.replicate k false)])) := HF.out.addBls HO.out HI.out
      have cn : Calls Tryz.prog 46 #[.pointer (some ⟨cb, 0, none⟩), .int .i64 3, .int .i64 0, .int .i64 (k : Int)] wr (fun e w' => e = .returned (.tuple #[.int .i64 (c.newArray 3 0 (k : Int)).1, .int .i64 (c.newArray 3 0 (k : Int)).2.1]) ∧ Fam w0 w' (Mdl mb d x ++ ([CoA cb (c.newArray 3 0 (k : Int)).2.2, RowA wo 80 [.int .i64 1, .int .i64 3, .int .i64 (k : Int), .int .i64 y]] ++ [BlsA (.slice va k vc) (List.replicate k false)]))) := cnewArray_rep wr F2.out (i := 6) rfl HST.out.ok 3 0 (k : Int)
      have HRF : Hid (d.refs.length = d.slots.length) := HST.out.sf.len
      obtain ⟨hh, hhh⟩ : ∃ z, z = (c.newArray 3 0 (k : Int)).1 := ⟨_, rfl⟩
      obtain ⟨er, her⟩ : ∃ z, z = (c.newArray 3 0 (k : Int)).2.1 := ⟨_, rfl⟩
      obtain ⟨c', hcc⟩ : ∃ z, z = (c.newArray 3 0 (k : Int)).2.2 := ⟨_, rfl⟩
      rw [← hhh, ← her, ← hcc] at cn HK
      rw [← hcc] at HOK2
      have HBL : Hid ((List.replicate k false).length = k) := List.length_replicate
      clear HF F2 HI HO hhh her hcc hlt hk
      go_wp2_with fail
      refine cn.mono ?_
      rintro e w3 ⟨rfl, hf3⟩
      have F3 := Lib.hid hf3
      clear cn hf3 o1' o2'
      rcases HK.out with ⟨e0, K', φ', hsf⟩ | ⟨e14, hsf⟩
      · subst e0
        have cm := made_ok w3 va k vc (List.replicate k false) F3.out HBL.out (by omega) (nid_le HST.out hN) (by rw [← HKN.out]; omega) HRF.out hh
        have HS2 := Lib.hid (HST.out.madeS hsf HOK2.out (by rw [← HKN.out]; exact h30) (by rw [HBL.out]; omega))
        clear hsf HK F3
        go_wp2_with fail
        refine cm.mono ?_
        rintro e w4 ⟨rfl, hf4⟩
        have F4 := Lib.hid hf4
        clear cm hf4
        go_wp2_with fail
        exact hR.out _ _ (Acted.row F4.out HS2.out (fun e => ⟨e, pm_made _ _⟩))
      · subst e14
        have cm := made_full w3 F3.out va k vc hh
        have HS2 := Lib.hid (HST.out.lost hsf HOK2.out)
        clear hsf HK F3
        go_wp2_with fail
        refine cm.mono ?_
        rintro e w4 ⟨rfl, hf4⟩
        have F4 := Lib.hid hf4
        clear cm hf4
        go_wp2_with fail
        exact hR.out _ _ (Acted.row F4.out HS2.out (fun e => by cases e))
theorem act_14 (w : World) (hf : Fam w0 w (Mdl mb d x ++ [CoA cb c])) (hN : N ≤ 900) (h : St N d K φ c) (b y : Int) (h30 : d.keeps.length < 30) (n : Nat) (hb : b = (n : Int)) (hn48 : n ≤ 48) :
    Calls Tryz.prog 86 #[.pointer (some ⟨mb, 0, none⟩), .pointer (some ⟨cb, 0, none⟩), .agg #[.int .i64 1, .int .i64 4, .int .i64 b, .int .i64 y]] w (Acted w0 mb cb (N + 2) d.lost (d.pm.made (List.replicate n true))) := by
  subst hb
  refine calls_abs fun R hR => ?_
  have hf1 : Fam w0 (w.alloc (.cells #[.int .i64 1, .int .i64 4, .int .i64 (n : Int), .int .i64 y] 80)) (Mdl mb d x ++ [CoA cb c, RowA w.heap.size 80 [.int .i64 1, .int .i64 4, .int .i64 (n : Int), .int .i64 y]]) := hf.addRow 80 [.int .i64 1, .int .i64 4, .int .i64 (n : Int), .int .i64 y]
  have rw0 := Row.new w 80 [.int .i64 1, .int .i64 4, .int .i64 (n : Int), .int .i64 y]
  have o0 := rw0.cell 0 rfl
  have o1 := rw0.cell 1 rfl
  have o2 := rw0.cell 2 rfl
  have o3 := rw0.cell 3 rfl
  obtain ⟨ka, kc, hkv⟩ := orow_len (Mdl.ke hf)
  have c2 := (Mdl.cells hf1).2.2.1
  rw [hkv] at c2
  have hkl := h.kl
  obtain ⟨kn, hkn⟩ : ∃ z, z = d.keeps.length := ⟨_, rfl⟩
  rw [← hkn] at c2 hkl
  have HF := Lib.hid hf1
  have HST := Lib.hid h
  have HKN := Lib.hid hkn
  have hkey := h.sf.newArray h.ok 4 (n : Int) (by omega) (by decide)
  have hok2 := h.ok.newArray 4 0 (n : Int)
  rw [show ((n : Int)).toNat = n by omega, show decide ((4 : Int) = 4) = true by decide] at hkey
  rw [← hkn] at h30
  have h1i : (kn : Int) < 30 := by omega
  have hn48i : (n : Int) ≤ 48 := by omega
  have hn0i : (0 : Int) ≤ (n : Int) := by omega
  have HK := Lib.hid hkey
  have HOK2 := Lib.hid hok2
  clear hf hf1 h rw0 hkv hkn hkey hok2
  go_enter Tryz.func86, Tryz.ntmps86
  go_upto_region 1 with fail
  generalize (w.alloc (.cells #[.int .i64 1, .int .i64 4, .int .i64 (n : Int), .int .i64 y] 80)) = w1 at *
  generalize w.heap.size = wo at *
  go_upto_region 12 with fail
  go_wp2_with fail
  go_loopw [11, 12] (fun vv iv wr => ∃ k : Nat, k ≤ n ∧ iv = .int .i64 k ∧ Bls wr w1.heap.size vv (List.replicate k true) ∧ Only [] w1 wr) (fun _ iv _ => n - (intOf iv).toNat)
  case atStart => exact ⟨0, by omega, rfl, Bls.nil _ _, Only.refl _ _⟩
  case round =>
    obtain ⟨k, hk, rfl, hi, ho⟩ := hrel
    have HI := Lib.hid hi
    have HO := Lib.hid ho
    obtain ⟨va, vc, hvv⟩ := hi.len
    rw [List.length_replicate] at hvv
    subst hvv
    have o1' := ho.cell0 o1
    have o2' := ho.cell0 o2
    clear hi ho
    by_cases hlt : k < n
    · have hlt1 : (k : Int) < (n : Int) := by omega
      have hk0 : (0 : Int) ≤ k := by omega
      go_wp2_with (at_builtin; refine append_bl1 rfl _ _ rfl w1.heap.size _ _ rfl (HI.out.alloc _) wr.heap.size true rfl ?c1 ?c2 ?c3 ?c4)
      case c1 => exact (Row.new wr _ [_]).cell 0 rfl
      case c2 => rw [List.length_replicate]; omega
      case c3 => have := HO.out.size; simp; omega
      case c4 =>
        intro v' w3 hi2 ho2 hb2
        have HO4 : Hid (Only [] w1 w3) := (HO.out.alloc _).trans ho2 (fun z hz => .inr (HI.out.own z (own_mem hz)).1)
        have HI4 : Hid (Bls w3 w1.heap.size v' (List.replicate (k + 1) true)) := by
          show Bls _ _ _ _
          rw [List.replicate_succ']
          exact hi2
        clear hi2 ho2 hb2 o1' o2'
        go_wp2_with fail
        exact ⟨⟨k + 1, by omega, by go_num, HI4.out, HO4.out⟩, by simp [intOf]; omega⟩
    · obtain rfl : k = n := by omega
      have hlt1 : ¬ (k : Int) < (k : Int) := by omega
      have F2 : Hid (Fam w0 wr (Mdl mb d x ++ [CoA cb c, RowA wo 80 [.int .i64 1, .int .i64 4, .int .i64 (k : Int), .int .i64 y], BlsA (.slice va k vc) (List.replicate k true)])) := HF.out.addBls HO.out HI.out
      have cn : Calls Tryz.prog 46 #[.pointer (some ⟨cb, 0, none⟩), .int .i64 4, .int .i64 0, .int .i64 (k : Int)] wr (fun e w' => e = .returned (.tuple #[.int .i64 (c.newArray 4 0 (k : Int)).1, .int .i64 (c.newArray 4 0 (k : Int)).2.1]) ∧ Fam w0 w' (Mdl mb d x ++ ([CoA cb (c.newArray 4 0 (k : Int)).2.2, RowA wo 80 [.int .i64 1, .int .i64 4, .int .i64 (k : Int), .int .i64 y]] ++ [BlsA (.slice va k vc) (List.replicate k true)]))) := cnewArray_rep wr F2.out (i := 6) rfl HST.out.ok 4 0 (k : Int)
      have HRF : Hid (d.refs.length = d.slots.length) := HST.out.sf.len
      obtain ⟨hh, hhh⟩ : ∃ z, z = (c.newArray 4 0 (k : Int)).1 := ⟨_, rfl⟩
      obtain ⟨er, her⟩ : ∃ z, z = (c.newArray 4 0 (k : Int)).2.1 := ⟨_, rfl⟩
      obtain ⟨c', hcc⟩ : ∃ z, z = (c.newArray 4 0 (k : Int)).2.2 := ⟨_, rfl⟩
      rw [← hhh, ← her, ← hcc] at cn HK
      rw [← hcc] at HOK2
      have HBL : Hid ((List.replicate k true).length = k) := List.length_replicate
      clear HF F2 HI HO hhh her hcc hlt hk
      go_wp2_with fail
      refine cn.mono ?_
      rintro e w3 ⟨rfl, hf3⟩
      have F3 := Lib.hid hf3
      clear cn hf3 o1' o2'
      rcases HK.out with ⟨e0, K', φ', hsf⟩ | ⟨e14, hsf⟩
      · subst e0
        have cm := made_ok w3 va k vc (List.replicate k true) F3.out HBL.out (by omega) (nid_le HST.out hN) (by rw [← HKN.out]; omega) HRF.out hh
        have HS2 := Lib.hid (HST.out.madeS hsf HOK2.out (by rw [← HKN.out]; exact h30) (by rw [HBL.out]; omega))
        clear hsf HK F3
        go_wp2_with fail
        refine cm.mono ?_
        rintro e w4 ⟨rfl, hf4⟩
        have F4 := Lib.hid hf4
        clear cm hf4
        go_wp2_with fail
        exact hR.out _ _ (Acted.row F4.out HS2.out (fun e => ⟨e, pm_made _ _⟩))
      · subst e14
        have cm := made_full w3 F3.out va k vc hh
        have HS2 := Lib.hid (HST.out.lost hsf HOK2.out)
        clear hsf HK F3
        go_wp2_with fail
        refine cm.mono ?_
        rintro e w4 ⟨rfl, hf4⟩
        have F4 := Lib.hid hf4
        clear cm hf4
        go_wp2_with fail
        exact hR.out _ _ (Acted.row F4.out HS2.out (fun e => by cases e))
theorem act_any (w : World) (hf : Fam w0 w (Mdl mb d x ++ [CoA cb c])) (hN : N ≤ 900) (h : St N d K φ c) (o a b y : Int) (wa : wfI a) (wb : wfI b) :
    Calls Tryz.prog 86 #[.pointer (some ⟨mb, 0, none⟩), .pointer (some ⟨cb, 0, none⟩), .agg #[.int .i64 o, .int .i64 a, .int .i64 b, .int .i64 y]] w (Acted w0 mb cb (N + 2) d.lost (d.pm.act o a b y)) := by
  have hm : ∀ {p : Pm}, Calls Tryz.prog 86 #[.pointer (some ⟨mb, 0, none⟩), .pointer (some ⟨cb, 0, none⟩), .agg #[.int .i64 o, .int .i64 a, .int .i64 b, .int .i64 y]] w (Acted w0 mb cb N d.lost p) → Calls Tryz.prog 86 #[.pointer (some ⟨mb, 0, none⟩), .pointer (some ⟨cb, 0, none⟩), .agg #[.int .i64 o, .int .i64 a, .int .i64 b, .int .i64 y]] w (Acted w0 mb cb (N + 2) d.lost p) := fun hc => hc.mono fun e w' ha => ha.mono (by omega)
  unfold Pm.act
  by_cases n0 : o = 0
  · subst n0
    rw [if_pos rfl]
    split
    · next e => rw [pm_len] at e; exact act_0yes w hf hN h a b y e.1 e.2.1 e.2.2.1 e.2.2.2
    · next e => rw [pm_len] at e; exact hm (act_0no w hf hN h a b y e)
  rw [if_neg n0]
  by_cases n1 : o = 1
  · subst n1
    rw [if_pos rfl]
    split
    · next e =>
      rw [pm_len] at e
      obtain ⟨e1, e2, e3, e4⟩ := e
      obtain ⟨n, rfl⟩ : ∃ n : Nat, b = (n : Int) := ⟨b.toNat, by omega⟩
      have en : ((n : Int)).toNat = n := by omega
      rw [en]
      rcases e4 with rfl | rfl
      · exact act_13 w hf hN h (n : Int) y e1 n rfl (by omega)
      · exact act_14 w hf hN h (n : Int) y e1 n rfl (by omega)
    · next e => rw [pm_len] at e; exact hm (act_1no w hf hN h a b y e)
  rw [if_neg n1]
  by_cases n2 : o = 2
  · subst n2
    rw [if_pos rfl]
    exact hm (act_2 w hf (by omega) h a b y wa wb)
  rw [if_neg n2]
  by_cases n7 : o = 7
  · subst n7
    rw [if_pos rfl]
    exact hm (act_7 w hf (by omega) h a b y wa wb)
  rw [if_neg n7]
  by_cases n9 : o = 9
  · subst n9
    rw [if_pos rfl]
    split
    · next e => rw [pm_len] at e; exact hm (act_90 w hf (by omega) h a b y wa wb e)
    · next e =>
      rw [pm_len] at e ⊢
      have e0 := Int.emod_nonneg a (b := (d.keeps.length : Int)) (by omega)
      have e1 := Int.emod_lt_of_pos a (b := (d.keeps.length : Int)) (by omega)
      obtain ⟨k, hk⟩ : ∃ k, k = (a % (d.keeps.length : Int)).toNat := ⟨_, rfl⟩
      rw [← hk]
      have hk1 : (k : Int) = a % (d.keeps.length : Int) := by omega
      have hk2 : k < d.keeps.length := by omega
      by_cases hk0 : k = 0
      · have hz : ∀ p : Pm, ({ p with ids := p.ids.take k ++ p.ids.drop (k + 1) } : Pm) = { p with ids := p.ids.drop 1 } := fun p => by rw [hk0]; rfl
        rw [hz]
        by_cases hk3 : d.keeps.length = 1
        · exact hm (act_9D w hf (by omega) h a b y wa wb hk1 hk2 hk0 hk3)
        · exact hm (act_9C w hf (by omega) h a b y wa wb hk1 hk2 hk0 (by omega))
      · by_cases hk3 : d.keeps.length = k + 1
        · exact hm (act_9B w hf (by omega) h a b y wa wb hk1 hk2 (by omega) hk3)
        · exact hm (act_9A w hf (by omega) h a b y wa wb hk1 hk2 (by omega) (by omega))
  rw [if_neg n9]
  exact hm (act_no w hf (by omega) h o a b y wa wb n0 n1 n2 n7 n9)
end
end Go.Proofs.YthflghdaejbdkaaGreat
