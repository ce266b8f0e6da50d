/- Lemmas of this claim. -/
import Derived.Test.YthflghdaejbdkaaGreatWCyT
import Derived.Test.YthflghdaejbdkaaGreatWMkCopy
import Derived.Test.YthflghdaejbdkaaGreatWTbCopy
namespace Go.Proofs.YthflghdaejbdkaaGreat
open Go.RowKit Go.Maps
set_option maxHeartbeats 6400000
set_option maxRecDepth 100000
set_option linter.unusedVariables false
section
variable {w0 w : World} {l : List Asn} {b : Nat} {c : Co} {x : CX} {i : Nat}
theorem mheap0_rep (w : World) {p hb : Nat} (h : w.cell? ⟨p, 0, none⟩ = some (.pointer (some ⟨hb, 0, none⟩))) : Calls Tryz.prog 74 #[.pointer (some ⟨p, 0, none⟩)] w (Exact w (.pointer (some ⟨hb, 0, none⟩))) := by
  refine calls_abs fun R hR => ?_
  have hn := mnone_rep w h
  go_enter Tryz.func74, Tryz.ntmps74
  go_wp2_with fail
  refine hn.mono ?_
  rintro e _ ⟨rfl, rfl⟩
  go_wp2_with fail
  exact hR.out _ _ ⟨rfl, rfl⟩
theorem Fam.pack5 {R A B C D : Asn} {L : List Asn} (h : Fam w0 w (R :: (L ++ [A] ++ [B] ++ [C] ++ [D]))) : Fam w0 w ([A, B, C, D, R] ++ L) := by
  have e0 : ∀ k, k < L.length → (R :: (L ++ [A] ++ [B] ++ [C] ++ [D]))[k + 1]? = L[k]? := fun k hk => by
    rw [List.getElem?_cons_succ, List.getElem?_append_left (by simp; omega), List.getElem?_append_left (by simp; omega), List.getElem?_append_left (by simp; omega), List.getElem?_append_left hk]
  have e1 : (R :: (L ++ [A] ++ [B] ++ [C] ++ [D]))[L.length + 1]? = some A := by
    rw [List.getElem?_cons_succ, List.getElem?_append_left (by simp), List.getElem?_append_left (by simp), List.getElem?_append_left (by simp)]
    simp
  have e2 : (R :: (L ++ [A] ++ [B] ++ [C] ++ [D]))[L.length + 2]? = some B := by
    rw [List.getElem?_cons_succ, List.getElem?_append_left (by simp), List.getElem?_append_left (by simp), List.getElem?_append_right (by simp)]
    simp
  have e3 : (R :: (L ++ [A] ++ [B] ++ [C] ++ [D]))[L.length + 3]? = some C := by
    rw [List.getElem?_cons_succ, List.getElem?_append_left (by simp), List.getElem?_append_right (by simp)]
    simp
  have e4 : (R :: (L ++ [A] ++ [B] ++ [C] ++ [D]))[L.length + 4]? = some D := by
    rw [List.getElem?_cons_succ, List.getElem?_append_right (by simp)]
    simp
  refine h.selC (fun k => if k < 4 then L.length + 1 + k else if k = 4 then 0 else k - 4) (fun k Z hk => ?_) (fun j k hj hk hne => ?_)
  · match k with
    | 0 => exact e1.trans hk
    | 1 => exact e2.trans hk
    | 2 => exact e3.trans hk
    | 3 => exact e4.trans hk
    | 4 => exact hk
    | k + 5 =>
      have hk2 : L[k]? = some Z := hk
      have hl := (List.getElem?_eq_some_iff.1 hk2).1
      simp only [show ¬ (k + 5 < 4) by omega, show ¬ (k + 5 = 4) by omega, if_false]
      rw [show k + 5 - 4 = k + 1 by omega, e0 k hl]
      exact hk2
  · have hlen : ([A, B, C, D, R] ++ L).length = 5 + L.length := by rw [List.length_append]; rfl
    rw [hlen] at hj hk
    split <;> split <;> (try split) <;> (try split) <;> omega
theorem ccopy_nil (w : World) : Calls Tryz.prog 39 #[.pointer none] w (Exact w (.pointer none)) := by
  refine calls_abs fun R hR => ?_
  have cn := cnone_nil w
  go_enter Tryz.func39, Tryz.ntmps39
  go_wp2_with fail
  refine cn.mono ?_
  rintro e _ ⟨rfl, rfl⟩
  go_wp2_with fail
  exact hR.out _ _ ⟨rfl, rfl⟩
theorem ccopy_any (w : World) (hf : Fam w0 w (C5 b c x ++ l)) (hx : x.ok c) (h : c.Okc) : Calls Tryz.prog 39 #[.pointer (some ⟨b, 0, none⟩)] w (fun e w' => ∃ b2, e = .returned (.pointer (some ⟨b2, 0, none⟩)) ∧ ∃ x2 : CX, x2.ok c ∧ Fam w0 w' (C5 b2 c x2 ++ (C5 b c x ++ l))) := by
  refine calls_abs fun R hR => ?_
  obtain ⟨x0, x1, x2, x3, x4, x5, x6, x7, x8, x9, _⟩ := CRow.cells hf
  have hs := C5.sw hf
  obtain ⟨sa, sc, hv⟩ := hs.len
  have hsl := h.sw_len
  obtain ⟨n, hn⟩ : ∃ n, n = c.sw.length := ⟨_, rfl⟩
  rw [← hn] at hv hsl
  rw [hv] at x8
  have hrow : CRow b c x = [.int .i64 (c.pages : Int), .int .i64 c.rate, .pointer (some ⟨x.hb, 0, none⟩), .pointer (some ⟨x.tb, 0, none⟩), .pointer (some ⟨x.p, 0, none⟩), .int .i64 (c.ph : Int), .int .i64 c.cr, .bool x.ov, .slice sa n sc, .int .i64 (x.mv : Int)] := by unfold CRow; rw [hv]
  have HLL : Hid (c.m.list.length ≤ 192) := by
    by_cases hp : c.ph = 1 ∨ c.ph = 2
    · exact (h.mo hp).len
    · rw [h.nl (fun e => hp (.inl e)) (fun e => hp (.inr e))]; exact Nat.zero_le _
  have HB := Lib.hid h.tg.b
  have HX := Lib.hid hx
  have HV := Lib.hid hv
  have HN := Lib.hid hn
  have F1 : Hid (Fam w0 (w.alloc (.cells #[.int .i64 (c.pages : Int), .int .i64 c.rate, .pointer (some ⟨x.hb, 0, none⟩), .pointer (some ⟨x.tb, 0, none⟩), .pointer (some ⟨x.p, 0, none⟩), .int .i64 (c.ph : Int), .int .i64 c.cr, .bool x.ov, .slice sa n sc, .int .i64 (x.mv : Int)] 142)) (RowA w.heap.size 142 [.int .i64 (c.pages : Int), .int .i64 c.rate, .pointer (some ⟨x.hb, 0, none⟩), .pointer (some ⟨x.tb, 0, none⟩), .pointer (some ⟨x.p, 0, none⟩), .int .i64 (c.ph : Int), .int .i64 c.cr, .bool x.ov, .slice sa n sc, .int .i64 (x.mv : Int)] :: (C5 b c x ++ l))) := by
    have h1 := hf.addRow 142 [.int .i64 (c.pages : Int), .int .i64 c.rate, .pointer (some ⟨x.hb, 0, none⟩), .pointer (some ⟨x.tb, 0, none⟩), .pointer (some ⟨x.p, 0, none⟩), .int .i64 (c.ph : Int), .int .i64 c.cr, .bool x.ov, .slice sa n sc, .int .i64 (x.mv : Int)]
    refine h1.selC (fun k => if k = 0 then (C5 b c x ++ l).length else k - 1) (fun k Z hk => ?_) (fun j k hj hk hne => ?_)
    · match k with
      | 0 =>
        show ((C5 b c x ++ l) ++ [_])[(C5 b c x ++ l).length]? = some Z
        rw [lat_last]; exact hk
      | k + 1 =>
        have hk2 : (C5 b c x ++ l)[k]? = some Z := hk
        simp only [show ¬ (k + 1 = 0) by omega, if_false, Nat.add_sub_cancel]
        exact lat_left hk2
    · rw [List.length_cons] at hj hk
      split <;> split <;> omega
  have cn := cnone_rep w x2
  have x4' : (w.alloc (.cells #[.int .i64 (c.pages : Int), .int .i64 c.rate, .pointer (some ⟨x.hb, 0, none⟩), .pointer (some ⟨x.tb, 0, none⟩), .pointer (some ⟨x.p, 0, none⟩), .int .i64 (c.ph : Int), .int .i64 c.cr, .bool x.ov, .slice sa n sc, .int .i64 (x.mv : Int)] 142)).cell? ⟨b, 4, none⟩ = some (.pointer (some ⟨x.p, 0, none⟩)) := ((C5.row hf).alloc _).cell 4 rfl
  clear hf hx h hv hn hs hrow
  go_enter Tryz.func39, Tryz.ntmps39
  go_wp2_with fail
  refine cn.mono ?_
  rintro e _ ⟨rfl, rfl⟩
  clear cn
  go_upto_region 4 with fail
  obtain ⟨y, hy⟩ : ∃ y, y = w.heap.size := ⟨_, rfl⟩
  rw [← hy] at F1 ⊢
  generalize w.alloc (.cells #[.int .i64 (c.pages : Int), .int .i64 c.rate, .pointer (some ⟨x.hb, 0, none⟩), .pointer (some ⟨x.tb, 0, none⟩), .pointer (some ⟨x.p, 0, none⟩), .int .i64 (c.ph : Int), .int .i64 c.cr, .bool x.ov, .slice sa n sc, .int .i64 (x.mv : Int)] 142) = w1 at *
  clear x0 x1 x2 x3 x4 x5 x6 x7 x8 x9 hy
  have cm := mcopyL_rep w1 (l := RowA y 142 [.int .i64 (c.pages : Int), .int .i64 c.rate, .pointer (some ⟨x.hb, 0, none⟩), .pointer (some ⟨x.tb, 0, none⟩), .pointer (some ⟨x.p, 0, none⟩), .int .i64 (c.ph : Int), .int .i64 c.cr, .bool x.ov, .slice sa n sc, .int .i64 (x.mv : Int)] :: (C5 b c x ++ l)) (i := 1) (j := 2) (hb := x.hb) (p := x.p) (m := c.m) ⟨by simp [C5], by simp [C5], by decide⟩ F1.out HLL.out
  go_wp2_with fail
  refine cm.mono ?_
  rintro e w2 ⟨q2, p2, rfl, hf2⟩
  have F2 : Hid (Fam w0 w2 (RowA y 142 [.int .i64 (c.pages : Int), .int .i64 c.rate, .pointer (some ⟨x.hb, 0, none⟩), .pointer (some ⟨x.tb, 0, none⟩), .pointer (some ⟨x.p, 0, none⟩), .int .i64 (c.ph : Int), .int .i64 c.cr, .bool x.ov, .slice sa n sc, .int .i64 (x.mv : Int)] :: ((C5 b c x ++ l) ++ [PH q2 c.m.M] ++ [MkA p2 q2 c.m.col c.m.list]))) := hf2
  have r2 := F2.out.row 0 rfl
  have y4c := r2.cell 4 rfl
  have y4f := r2.free 4
  have F3 : Hid (Fam w0 (w2.setCell ⟨y, 4, none⟩ (.pointer (some ⟨p2, 0, none⟩))) (RowA y 142 [.int .i64 (c.pages : Int), .int .i64 c.rate, .pointer (some ⟨x.hb, 0, none⟩), .pointer (some ⟨x.tb, 0, none⟩), .pointer (some ⟨p2, 0, none⟩), .int .i64 (c.ph : Int), .int .i64 c.cr, .bool x.ov, .slice sa n sc, .int .i64 (x.mv : Int)] :: ((C5 b c x ++ l) ++ [PH q2 c.m.M] ++ [MkA p2 q2 c.m.col c.m.list]))) := F2.out.setRowC 0 rfl 4 _
  clear cm hf2 x4' r2 F1
  go_upto_region 5 with fail
  generalize w2.setCell ⟨y, 4, none⟩ (.pointer (some ⟨p2, 0, none⟩)) = w3 at *
  clear y4c y4f F2
  have r3 := F3.out.row 0 rfl
  have y4c := r3.cell 4 rfl
  have y2c := r3.cell 2 rfl
  have y2f := r3.free 2
  have hq0 : w3.cell? ⟨p2, 0, none⟩ = some (.pointer (some ⟨q2, 0, none⟩)) := by
    obtain ⟨S, ⟨mb, v, h1, _⟩, _⟩ := F3.out.get (((C5 b c x ++ l) ++ [PH q2 c.m.M]).length + 1) (A := MkA p2 q2 c.m.col c.m.list) (by rw [List.getElem?_cons_succ, lat_last])
    obtain ⟨T, h2⟩ := h1.row
    exact h2.cell 0 rfl
  have ch := mheap0_rep w3 hq0
  have F4 : Hid (Fam w0 (w3.setCell ⟨y, 2, none⟩ (.pointer (some ⟨q2, 0, none⟩))) (RowA y 142 [.int .i64 (c.pages : Int), .int .i64 c.rate, .pointer (some ⟨q2, 0, none⟩), .pointer (some ⟨x.tb, 0, none⟩), .pointer (some ⟨p2, 0, none⟩), .int .i64 (c.ph : Int), .int .i64 c.cr, .bool x.ov, .slice sa n sc, .int .i64 (x.mv : Int)] :: ((C5 b c x ++ l) ++ [PH q2 c.m.M] ++ [MkA p2 q2 c.m.col c.m.list]))) := F3.out.setRowC 0 rfl 2 _
  clear r3 hq0
  go_wp2_with fail
  refine ch.mono ?_
  rintro e _ ⟨rfl, rfl⟩
  clear ch
  go_upto_region 6 with fail
  generalize w3.setCell ⟨y, 2, none⟩ (.pointer (some ⟨q2, 0, none⟩)) = w4 at *
  clear y4c y2c y2f F3
  obtain ⟨S, ⟨ev, qv, mo, ht, _⟩, _⟩ := F4.out.get 3 rfl
  have ct := tcopy_rep w4 ht HB.out.le (by have := HB.out.q20; omega)
  have z3 := (F4.out.row 5 rfl).cell 3 rfl
  clear ht
  go_wp2_with fail
  refine ct.mono ?_
  rintro e w5 ⟨t2, rfl, hB⟩
  have F5 : Hid (Fam w0 w5 (RowA y 142 [.int .i64 (c.pages : Int), .int .i64 c.rate, .pointer (some ⟨q2, 0, none⟩), .pointer (some ⟨x.tb, 0, none⟩), .pointer (some ⟨p2, 0, none⟩), .int .i64 (c.ph : Int), .int .i64 c.cr, .bool x.ov, .slice sa n sc, .int .i64 (x.mv : Int)] :: ((C5 b c x ++ l) ++ [PH q2 c.m.M] ++ [MkA p2 q2 c.m.col c.m.list] ++ [TbA t2 c.t c.t.ents.length]))) := F4.out.add hB
  have r5 := F5.out.row 0 rfl
  have y3c := r5.cell 3 rfl
  have y3f := r5.free 3
  have F6 : Hid (Fam w0 (w5.setCell ⟨y, 3, none⟩ (.pointer (some ⟨t2, 0, none⟩))) (RowA y 142 [.int .i64 (c.pages : Int), .int .i64 c.rate, .pointer (some ⟨q2, 0, none⟩), .pointer (some ⟨t2, 0, none⟩), .pointer (some ⟨p2, 0, none⟩), .int .i64 (c.ph : Int), .int .i64 c.cr, .bool x.ov, .slice sa n sc, .int .i64 (x.mv : Int)] :: ((C5 b c x ++ l) ++ [PH q2 c.m.M] ++ [MkA p2 q2 c.m.col c.m.list] ++ [TbA t2 c.t c.t.ents.length]))) := F5.out.setRowC 0 rfl 3 _
  clear ct hB r5 z3 F4
  go_upto_region 7 with fail
  generalize w5.setCell ⟨y, 3, none⟩ (.pointer (some ⟨t2, 0, none⟩)) = w6 at *
  clear y3c y3f F5
  have z8 := (F6.out.row 5 rfl).cell 8 rfl
  replace z8 : w6.cell? ⟨b, 8, none⟩ = some (.slice sa n sc) := by rw [← HV.out]; exact z8
  have hi6 := F6.out.ints 4 rfl
  rw [HV.out] at hi6
  have cc := clone_ownI w6 _ c.sw hi6 (by rw [← HN.out]; omega)
  clear hi6
  go_wp2_with fail
  refine cc.mono ?_
  rintro e w7 ⟨v7, rfl, hi7, ho7⟩
  obtain ⟨va, vc, hv7⟩ := hi7.len
  rw [← HN.out] at hv7
  subst hv7
  have F7 : Hid (Fam w0 w7 (RowA y 142 [.int .i64 (c.pages : Int), .int .i64 c.rate, .pointer (some ⟨q2, 0, none⟩), .pointer (some ⟨t2, 0, none⟩), .pointer (some ⟨p2, 0, none⟩), .int .i64 (c.ph : Int), .int .i64 c.cr, .bool x.ov, .slice sa n sc, .int .i64 (x.mv : Int)] :: ((C5 b c x ++ l) ++ [PH q2 c.m.M] ++ [MkA p2 q2 c.m.col c.m.list] ++ [TbA t2 c.t c.t.ents.length] ++ [IntsA (.slice va n vc) c.sw]))) := F6.out.addInts ho7 hi7
  have r7 := F7.out.row 0 rfl
  have y8c := r7.cell 8 rfl
  have y8f := r7.free 8
  have F8 : Hid (Fam w0 (w7.setCell ⟨y, 8, none⟩ (.slice va n vc)) (C5 y c ⟨q2, p2, t2, .slice va n vc, x.ov, x.mv⟩ ++ (C5 b c x ++ l))) := by
    have f8 : Fam w0 (w7.setCell ⟨y, 8, none⟩ (.slice va n vc)) (RowA y 142 (CRow y c ⟨q2, p2, t2, .slice va n vc, x.ov, x.mv⟩) :: ((C5 b c x ++ l) ++ [PH q2 c.m.M] ++ [MkA p2 q2 c.m.col c.m.list] ++ [TbA t2 c.t c.t.ents.length] ++ [IntsA (.slice va n vc) c.sw])) := F7.out.setRowC 0 rfl 8 _
    exact f8.pack5
  clear cc hi7 ho7 r7 z8 F6
  go_wp2_with fail
  exact hR.out _ _ ⟨y, rfl, ⟨q2, p2, t2, .slice va n vc, x.ov, x.mv⟩, ⟨HX.out.ov, HX.out.mv, HX.out.mv2⟩, F8.out⟩
end
end Go.Proofs.YthflghdaejbdkaaGreat
