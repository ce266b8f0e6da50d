/- Lemmas of this claim. -/
import Derived.Test.YthflghdaejbdkaaGreatVTbGC
namespace Go.Proofs.YthflghdaejbdkaaGreat
open Go.RowKit Go.Maps
set_option maxHeartbeats 6400000
set_option maxRecDepth 100000
set_option linter.unusedVariables false
theorem wpList_ecpy {w : World} {ops : Array Oper} {rest : List Oper} {o : Oper} {a : Act} {Q : Exit → Act → World → Prop} (hgd : o.guard = none) (s x : Operand)
    (ho : o.op = .call { callee := .builtin .append, args := #[s, x], argTypes := #[49, 49] }) (w0 : World) (hO : Only [] w0 w)
    (gs : Nat) (hs : a.eval s = .slice (some ⟨gs, 0, none⟩) 0 0) (hown : Ents w 48 w0.heap.size (.slice (some ⟨gs, 0, none⟩) 0 0) []) (va : Option Addr) (n vc : Nat) (l : List En) (hx : a.eval x = .slice va n vc) (hl : l.length = n) (hv : Ents w0 48 0 (.slice va n vc) l) (hb : n ≤ 1000000)
    (h : ∀ g cap w', Hid (Ents w' 48 w0.heap.size (.slice (some ⟨g, 0, none⟩) n cap) l) → Hid (Only [] w0 w') → wpList Tryz.prog ops Q rest (a.put o.dst (.slice (some ⟨g, 0, none⟩) n cap)) w') : wpList Tryz.prog ops Q (o :: rest) a w := by
  refine wpList_plain hgd fun K hK => ?_
  obtain ⟨i0, hi0, hz0, hz1, hz2⟩ := info_parts infoRe
  by_cases h0 : n = 0
  · subst h0
    have hnil : l = [] := List.eq_nil_of_length_eq_zero hl
    subst hnil
    have hsrc : Src Tryz.prog i0.size 49 (.slice va 0 vc) 0 [] w := by
      cases va with
      | none => exact Src.ofNil w Tryz.underlying49 vc
      | some a => exact Src.ofSlice w Tryz.underlying49 a 0 vc [] (by simp) (fun j u hu => by simp at hu) (fun u hu => by simp at hu)
    have hr := run_append_nothing (P := Tryz.prog) w 49 49 o.type 48 i0 Tryz.underlying49 hi0 (some ⟨gs, 0, none⟩) 0 0 (Nat.le_refl _) (.slice va 0 vc) hsrc
    unfold Oper.wp execOp
    simp only [ho, resolve, invoke, builtin, Sem.run_bind, Sem.run_pure, Result.andThen_ok, List.map_toArray, List.map_cons, List.map_nil, hs, hx, hr]
    exact hK _ _ (h gs 0 w hown hO)
  · obtain ⟨g, c, e1, _, hg, hlc⟩ := hv.form (fun e => by rw [e] at hl; simp at hl; omega)
    have e2 : va = some ⟨g, 0, none⟩ := by simp only [Value.slice.injEq] at e1; exact e1.1
    subst e2
    subst hl
    refine wp_append_lies _ s x 49 ho w0.heap.size 48 i0 _ 3 24 Tryz.underlying49 hi0 hz0 hz1 hz2 rfl (by omega) _ 0 [] hs hown ⟨g, 0, none⟩ l.length vc (enCells l) hx (by rw [enCells_len]) (fun j u hu => ?_) (fun u hu => ?_) (by omega) (by simp only [maxLen]; omega) (by omega) hO.size w.heap.size rfl ?_
    · have hj := (List.getElem?_eq_some_iff.1 hu).1
      rw [enCells_len] at hj
      have h1 := World.ownsRow.cellAt hv j hj
      rw [addr_add, Nat.zero_add]
      exact hO.cell (h1.trans hu) (by simp)
    · unfold enCells at hu
      rw [List.mem_flatMap] at hu
      obtain ⟨e, _, hu⟩ := hu
      simp only [enC, List.mem_cons, List.not_mem_nil, or_false] at hu
      rcases hu with rfl | rfl | rfl <;> rfl
    · intro g2 cap w' h1 h2 h3 h4
      rw [Nat.zero_add] at h1 ⊢
      refine hK _ _ (h g2 cap w' ?_ (hO.grown h2 (fun k hk => .inr (hown.own k hk).1)))
      show Ents _ _ _ _ _
      exact h1
theorem Ents.made (w : World) (T : Nat) : Ents (w.alloc (.cells #[] T)) T w.heap.size (.slice (some ⟨w.heap.size, 0, none⟩) 0 0) [] := World.ownsRow_made w #[] 0 (Nat.le_refl _) (by simp [maxLen]) rfl
theorem rtcopy_rep (w : World) {b : Nat} {t : Tb} {ev qv wv : Value} {nx : Nat} {wl : List Bool} (ht : TrAt w b ev qv wv nx wl t) (hl : t.ents.length ≤ 20) (hq : t.q.length ≤ 1000000) : Calls Tryz.prog 19 #[.pointer (some ⟨b, 0, none⟩)] w (fun e w' => ∃ b2, e = .returned (.pointer (some ⟨b2, 0, none⟩)) ∧ Born w w' (TrA b2 t)) := by
  refine calls_abs fun R hR => ?_
  have HT := Lib.hid ht
  have hwl : wl.length ≤ 1000000 := Nat.le_trans ht.two.1 (by omega)
  obtain ⟨U, hr⟩ := ht.row
  have hblt := hr.lt
  have c0 := hr.cell 0 rfl
  have c1 := hr.cell 1 rfl
  have c2 := hr.cell 2 rfl
  have c3 := hr.cell 3 rfl
  have c4 := hr.cell 4 rfl
  obtain ⟨ea, ec, hev⟩ := ht.ents.len
  obtain ⟨qa, qc, hqv⟩ := ht.q.len
  obtain ⟨ba, bc, hbv⟩ := ht.wh.len
  have HEE : Hid (Ents w 48 0 ev t.ents) := ht.ents
  have HQQ : Hid (Ints w 0 qv t.q) := ht.q
  have HWW : Hid (Bls w 0 wv wl) := ht.wh
  rw [hev] at c0 HEE
  rw [hqv] at c1 HQQ
  rw [hbv] at c4 HWW
  generalize hen : t.ents.length = en at *
  generalize hqn : t.q.length = qn at *
  generalize hbn : wl.length = bn at *
  generalize HPH : t.ph = ph at *
  have HEN := Lib.hid hen
  have HQN := Lib.hid hqn
  have HBN := Lib.hid hbn
  have hl6 : en ≤ 1000000 := by omega
  have HB : Hid (∀ wx, Only [] w wx → wx.cell? ⟨b, 0, none⟩ = some (.slice ea en ec) ∧ wx.cell? ⟨b, 1, none⟩ = some (.slice qa qn qc) ∧ wx.cell? ⟨b, 4, none⟩ = some (.slice ba bn bc)) := fun wx ho => ⟨ho.cell c0 (by simp), ho.cell c1 (by simp), ho.cell c4 (by simp)⟩
  clear ht hr hev hqv hbv hen hqn hbn
  go_enter Tryz.func19, Tryz.ntmps19
  go_upto_region 4 with fail
  have HR6 : Hid (Row (w.alloc (.cells #[.slice ea en ec, .slice qa qn qc, .int .i64 (ph : Int), .int .i64 (nx : Int), .slice ba bn bc] 52)) w.heap.size 52 [.slice ea en ec, .slice qa qn qc, .int .i64 (ph : Int), .int .i64 (nx : Int), .slice ba bn bc]) := Row.new w _ [_, _, _, _, _]
  have QO6 : Hid (Only [] w (w.alloc (.cells #[.slice ea en ec, .slice qa qn qc, .int .i64 (ph : Int), .int .i64 (nx : Int), .slice ba bn bc] 52))) := (Only.refl [] w).alloc _
  have HS6 : Hid (w.heap.size < (w.alloc (.cells #[.slice ea en ec, .slice qa qn qc, .int .i64 (ph : Int), .int .i64 (nx : Int), .slice ba bn bc] 52)).heap.size) := by show _ < _; simp
  generalize (w.alloc (.cells #[.slice ea en ec, .slice qa qn qc, .int .i64 (ph : Int), .int .i64 (nx : Int), .slice ba bn bc] 52)) = w6 at *
  obtain ⟨y, hy⟩ : ∃ z, z = w.heap.size := ⟨_, rfl⟩
  have HY := Lib.hid hy
  rw [← hy] at HR6 HS6 hblt ⊢
  clear c0 c1 c2 c3 c4 hy
  obtain ⟨yA, _, _⟩ := HB.out (w6.alloc (.cells #[] 48)) (QO6.out.alloc _)
  go_wp2_with (at_builtin; refine wpList_ecpy rfl _ _ rfl w6 ((Only.refl _ _).alloc _) _ rfl (Ents.made _ _) ea en ec t.ents rfl HEN.out ?q1 hl6 ?q2)
  case q1 => exact HEE.out.only QO6.out (by simp)
  case q2 =>
    intro g1 cap1 w7 k1 k2
    clear yA
    have hg1 := k1.out.own g1 rfl
    have HR7 := k2.out.row HR6.out (by simp)
    have y0c := HR7.cell 0 rfl
    have y0f := HR7.free 0
    have HR8 : Hid (Row (w7.setCell ⟨y, 0, none⟩ (.slice (some ⟨g1, 0, none⟩) en cap1)) y 52 [.slice (some ⟨g1, 0, none⟩) en cap1, .slice qa qn qc, .int .i64 (ph : Int), .int .i64 (nx : Int), .slice ba bn bc]) := HR7.set 0 _
    have HS8 : Only [y] w7 (w7.setCell ⟨y, 0, none⟩ (.slice (some ⟨g1, 0, none⟩) en cap1)) := (Only.refl _ _).set (p := ⟨y, 0, none⟩) (.inl (by simp)) _
    have HO8 : Hid (Only [] w (w7.setCell ⟨y, 0, none⟩ (.slice (some ⟨g1, 0, none⟩) en cap1))) := (QO6.out.trans k2.out (by simp)).set (p := ⟨y, 0, none⟩) (.inr (by rw [HY.out]; exact Nat.le_refl _)) _
    have E8 : Hid (Ents (w7.setCell ⟨y, 0, none⟩ (.slice (some ⟨g1, 0, none⟩) en cap1)) 48 w6.heap.size (.slice (some ⟨g1, 0, none⟩) en cap1) t.ents) := k1.out.only HS8 (fun k hk => by cases hk; have := HS6.out; simp; omega)
    have HG1 : Hid (w6.heap.size ≤ g1 ∧ g1 < (w7.setCell ⟨y, 0, none⟩ (.slice (some ⟨g1, 0, none⟩) en cap1)).heap.size ∧ y < w6.heap.size) := ⟨hg1.1, Nat.lt_of_lt_of_le hg1.2 HS8.size, HS6.out⟩
    clear k1 k2 hg1 HS8 HR7
    go_upto_region 5 with fail
    generalize w7.setCell ⟨y, 0, none⟩ (.slice (some ⟨g1, 0, none⟩) en cap1) = w8 at *
    clear y0c y0f
    obtain ⟨_, yA, _⟩ := HB.out (w8.alloc (.cells #[] 3)) (HO8.out.alloc _)
    go_wp2_with (at_builtin; refine wpList_icpy rfl _ _ rfl w8 ((Only.refl _ _).alloc _) _ rfl (Ints.made _) qa qn qc t.q rfl HQN.out ?q3 hq ?q4)
    case q3 => exact (HQQ.out.only HO8.out (by simp)).read
    case q4 =>
      intro g2 cap2 w9 k1 k2
      clear yA
      have hg2 := k1.out.own g2 rfl
      have HR9 := k2.out.row HR8.out (by simp)
      have y1c := HR9.cell 1 rfl
      have y1f := HR9.free 1
      have hy8 : y < w8.heap.size := HR8.out.lt
      have HR10 : Hid (Row (w9.setCell ⟨y, 1, none⟩ (.slice (some ⟨g2, 0, none⟩) qn cap2)) y 52 [.slice (some ⟨g1, 0, none⟩) en cap1, .slice (some ⟨g2, 0, none⟩) qn cap2, .int .i64 (ph : Int), .int .i64 (nx : Int), .slice ba bn bc]) := HR9.set 1 _
      have HS10 : Only [y] w9 (w9.setCell ⟨y, 1, none⟩ (.slice (some ⟨g2, 0, none⟩) qn cap2)) := (Only.refl _ _).set (p := ⟨y, 1, none⟩) (.inl (by simp)) _
      have HO10 : Hid (Only [] w (w9.setCell ⟨y, 1, none⟩ (.slice (some ⟨g2, 0, none⟩) qn cap2))) := (HO8.out.trans k2.out (by simp)).set (p := ⟨y, 1, none⟩) (.inr (by rw [HY.out]; exact Nat.le_refl _)) _
      have E10 : Hid (Ents (w9.setCell ⟨y, 1, none⟩ (.slice (some ⟨g2, 0, none⟩) qn cap2)) 48 w6.heap.size (.slice (some ⟨g1, 0, none⟩) en cap1) t.ents) := (E8.out.only k2.out (by simp)).only HS10 (fun k hk => by cases hk; have := HG1.out; simp; omega)
      have I10 : Hid (Ints (w9.setCell ⟨y, 1, none⟩ (.slice (some ⟨g2, 0, none⟩) qn cap2)) w8.heap.size (.slice (some ⟨g2, 0, none⟩) qn cap2) t.q) := k1.out.only HS10 (fun k hk => by cases hk; simp; omega)
      have HG2 : Hid (w6.heap.size ≤ g1 ∧ g1 < w8.heap.size ∧ w8.heap.size ≤ g2 ∧ y < w6.heap.size) := ⟨HG1.out.1, HG1.out.2.1, hg2.1, HG1.out.2.2⟩
      clear k1 k2 hg2 HS10 HR9 hy8 HG1 E8 HO8 HR8
      go_upto_region 6 with fail
      generalize w9.setCell ⟨y, 1, none⟩ (.slice (some ⟨g2, 0, none⟩) qn cap2) = w10 at *
      clear y1c y1f
      obtain ⟨_, _, yA⟩ := HB.out (w10.alloc (.cells #[] 4)) (HO10.out.alloc _)
      go_wp2_with (at_builtin; refine wpList_bcpy rfl _ _ rfl w10 ((Only.refl _ _).alloc _) _ rfl (Bls.made _) ba bn bc wl rfl HBN.out ?q5 hwl ?q6)
      case q5 => exact HWW.out.barg.only HO10.out
      case q6 =>
        intro g3 cap3 w11 k1 k2
        clear yA
        have hg3 := k1.out.own g3 rfl
        have HR11 := k2.out.row HR10.out (by simp)
        have y4c := HR11.cell 4 rfl
        have y4f := HR11.free 4
        have hy10 : y < w10.heap.size := HR10.out.lt
        have HR12 : Row (w11.setCell ⟨y, 4, none⟩ (.slice (some ⟨g3, 0, none⟩) bn cap3)) y 52 [.slice (some ⟨g1, 0, none⟩) en cap1, .slice (some ⟨g2, 0, none⟩) qn cap2, .int .i64 (ph : Int), .int .i64 (nx : Int), .slice (some ⟨g3, 0, none⟩) bn cap3] := HR11.set 4 _
        have HS12 : Only [y] w11 (w11.setCell ⟨y, 4, none⟩ (.slice (some ⟨g3, 0, none⟩) bn cap3)) := (Only.refl _ _).set (p := ⟨y, 4, none⟩) (.inl (by simp)) _
        have HO12 : Only [] w (w11.setCell ⟨y, 4, none⟩ (.slice (some ⟨g3, 0, none⟩) bn cap3)) := (HO10.out.trans k2.out (by simp)).set (p := ⟨y, 4, none⟩) (.inr (by rw [HY.out]; exact Nat.le_refl _)) _
        have hg12 := HG2.out
        have E12 := (E10.out.only k2.out (by simp)).only HS12 (fun k hk => by cases hk; simp; omega)
        have I12 := (I10.out.only k2.out (by simp)).only HS12 (fun k hk => by cases hk; simp; omega)
        have B12 := k1.out.only HS12 (fun k hk => by cases hk; simp; omega)
        have hsz : w.heap.size ≤ w6.heap.size := QO6.out.size
        have hsz2 : w.heap.size ≤ w8.heap.size := by omega
        have hg2 := I10.out.own g2 rfl
        have hyw := HY.out
        have hT : TrAt (w11.setCell ⟨y, 4, none⟩ (.slice (some ⟨g3, 0, none⟩) bn cap3)) y (.slice (some ⟨g1, 0, none⟩) en cap1) (.slice (some ⟨g2, 0, none⟩) qn cap2) (.slice (some ⟨g3, 0, none⟩) bn cap3) nx wl t := by
          refine ⟨⟨_, by rw [HPH]; exact HR12⟩, E12.low (Nat.zero_le _), I12.base (Nat.zero_le _), B12.base (Nat.zero_le _), HT.out.now, HT.out.two, fun g hg => ?_, fun g hg => ?_, fun e => ?_⟩
          · have e1 : g1 = g := by simpa [Value.ownBlock] using hg
            exact ⟨by omega, fun e => by have e3 : g3 = g := (by simpa [Value.ownBlock] using e); omega, fun e => by have e3 : g2 = g := (by simpa [Value.ownBlock] using e); omega⟩
          · have e1 : g2 = g := by simpa [Value.ownBlock] using hg
            exact ⟨by omega, fun e => by have e3 : g3 = g := (by simpa [Value.ownBlock] using e); omega⟩
          · have e3 : g3 = y := by simpa [Value.ownBlock] using e
            omega
        have HE : Hid (Born w (w11.setCell ⟨y, 4, none⟩ (.slice (some ⟨g3, 0, none⟩) bn cap3)) (TrA y t)) := by
          refine ⟨HO12, fun k => k = y ∨ (Value.slice (some ⟨g1, 0, none⟩) en cap1).ownBlock = some k ∨ (Value.slice (some ⟨g2, 0, none⟩) qn cap2).ownBlock = some k ∨ (Value.slice (some ⟨g3, 0, none⟩) bn cap3).ownBlock = some k, ⟨_, _, _, _, _, hT, fun k => Iff.rfl⟩, fun k hk => ?_⟩
          rcases hk with hk | hk | hk | hk
          · omega
          · have e1 : g1 = k := by simpa [Value.ownBlock] using hk
            omega
          · have e1 : g2 = k := by simpa [Value.ownBlock] using hk
            omega
          · have e1 : g3 = k := by simpa [Value.ownBlock] using hk
            omega
        clear k1 k2 hg3 HR11 hy10 HR12 HS12 HO12 E12 I12 B12 hg12 hg2 HG2 HR10 HO10 E10 I10 hT hyw
        go_wp2_with fail
        exact hR.out _ _ ⟨y, rfl, HE.out⟩
end Go.Proofs.YthflghdaejbdkaaGreat
