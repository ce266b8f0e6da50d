/- Reach of the program's heap. -/
import Derived.Test.YtkjocehdbpekjaaGreatVisit
import Derived.Test.YtkjocehdbpekjaaGreatRReach
namespace Go.Proofs.YtkjocehdbpekjaaGreat
open Go.RowKit Go.Maps
set_option maxHeartbeats 12800000
set_option maxRecDepth 100000
set_option linter.unusedVariables false
/-- How much is still to be done. -/
noncomputable def reachM (w : World) (B vb lb mb : Nat) : Nat := Classical.epsilon (fun m => ∃ lv S Q, Seen w B vb lb mb lv S Q ∧ m + cntS S = 192 + Q.length)
theorem cntS_congr {S S2 : Int → Bool} (h : ∀ k : Nat, k < 192 → S ((k : Int) + 1) = S2 ((k : Int) + 1)) : cntS S = cntS S2 := by
  unfold cntS
  generalize 192 = N at *
  exact cnt_congr h
theorem Seen.only {w w' : World} {B vb lb mb : Nat} {lv : Value} {S : Int → Bool} {Q : List Int} (h : Seen w B vb lb mb lv S Q) (ho : Only [] w w') : Seen w' B vb lb mb lv S Q :=
  ⟨ho.row h.rv (by simp), ho.row h.rl (by simp), h.qs.only ho (by simp), h.st.only ho (by simp), h.ne, Nat.le_trans h.bw ho.size⟩
theorem Seen.put {w : World} {B vb lb mb : Nat} {lv v2 : Value} {S : Int → Bool} {Q Q2 : List Int} (h : Seen w B vb lb mb lv S Q) (hq : Qsl w B v2 Q2) : Seen (w.setCell ⟨lb, 0, none⟩ v2) B vb lb mb v2 S Q2 := by
  have ho : Only [lb] w (w.setCell ⟨lb, 0, none⟩ v2) := (Only.refl [lb] w).set (.inl (by simp)) _
  have hn := h.ne
  exact ⟨h.rv.other (Ne.symm hn.1) _, h.rl.set 0 _, hq.only ho (fun k hk => by have := (hq.own k hk).1; simp; omega), h.st.only ho (by simp; omega), hn, Nat.le_trans h.bw ho.size⟩
theorem Qsl.last {w : World} {base g off : Nat} {x : Int} {l : List Int} (h : Qsl w base (.slice (some ⟨g, off, none⟩) (l.length + 1) 1) (x :: l)) : Qsl w base (.slice (some ⟨g, off, none⟩) l.length 0) l := by
  rcases h with ⟨_, h1⟩ | ⟨g', off', cap, T, cs, h1, h2, h3, h4, h5, h6⟩
  · cases h1
  · simp only [Value.slice.injEq, Option.some.injEq, Addr.mk.injEq] at h1
    obtain ⟨⟨rfl, rfl, _⟩, _, rfl⟩ := h1
    have h4' : l.length + 1 ≤ 1 := h4
    exact .inr ⟨g, off, 0, T, cs, rfl, h2, h3, by omega, by omega, fun j hj => by omega⟩
theorem Seen.same {w : World} {B vb lb mb : Nat} {lv lv2 : Value} {S S2 : Int → Bool} {Q Q2 : List Int} (h : Seen w B vb lb mb lv S Q) (h2 : Seen w B vb lb mb lv2 S2 Q2) : cntS S = cntS S2 ∧ Q.length = Q2.length := by
  constructor
  · refine cntS_congr fun k hk => ?_
    have hw : wfI ((k : Int) + 1) := wfI_mk (by omega)
    have e1 := h.st.look hw
    have e2 := h2.st.look hw
    rw [e1] at e2
    exact Value.bool.inj (Result.ok.inj e2).1
  · have e := h.rl.inj h2.rl
    injection e with e1 _
    obtain ⟨a, c, h3⟩ := h.qs.len
    obtain ⟨a2, c2, h4⟩ := h2.qs.len
    rw [h3, h4] at e1
    injection e1
theorem reachM_eq {w : World} {B vb lb mb : Nat} {lv : Value} {S : Int → Bool} {Q : List Int} (h : Seen w B vb lb mb lv S Q) : reachM w B vb lb mb + cntS S = 192 + Q.length := by
  have hex : ∃ m, ∃ lv S Q, Seen w B vb lb mb lv S Q ∧ m + cntS S = 192 + Q.length := ⟨192 + Q.length - cntS S, lv, S, Q, h, by have := cntS_le S; omega⟩
  obtain ⟨lv2, S2, Q2, h2, he⟩ := Classical.epsilon_spec hex
  obtain ⟨e1, e2⟩ := h.same h2
  rw [e1, e2]
  exact he
/-- What holds while the list is eaten. -/
structure RInv (M : Hp) (roots : List Int) (S : Int → Bool) (Q : List Int) : Prop where
  sound : ∀ x, S x = true → M.Rch roots x
  rts : ∀ x, x ∈ roots → x ≠ 0 → S x = true
  cls : ∀ x, S x = true → x ∈ Q ∨ ∀ y, y ∈ (M.refs x).1 → S y = true
  inS : ∀ x, x ∈ Q → S x = true
  len : Q.length ≤ cntS S
theorem RInv.start {M : Hp} {roots : List Int} {S2 : Int → Bool} {Q2 : List Int} (h : VisOk (fun _ => false) [] S2 Q2 roots roots.length) : RInv M roots S2 Q2 := by
  refine ⟨fun x hx => ?_, fun x hx h0 => ?_, fun x hx => .inl ((h.mem x).2 (.inr ⟨rfl, hx⟩)), fun x hx => ?_, ?_⟩
  · rcases (h.sub x).1 hx with h1 | ⟨h1, j, h2, h3⟩
    · cases h1
    · exact .root (mem_gI.2 ⟨j, h2, h3⟩) h1
  · obtain ⟨j, hj, h3⟩ := mem_gI.1 hx
    exact (h.sub x).2 (.inr ⟨h0, j, hj, h3⟩)
  · rcases (h.mem x).1 hx with h1 | ⟨_, h1⟩
    · cases h1
    · exact h1
  · have h1 := h.num
    have h0 : cntS (fun _ => false) = 0 := cnt_zero (fun _ _ => rfl)
    rw [h0] at h1
    simp at h1
    omega
theorem RInv.step {M : Hp} (hk : M.Ok) {roots : List Int} {S S2 : Int → Bool} {Q Q2 : List Int} {x : Int} (h : RInv M roots S (x :: Q)) {o : Th} (ho : M.ob x = some o) (hv : VisOk S Q S2 Q2 o.refsL o.refsL.length) : RInv M roots S2 Q2 := by
  have hmono : ∀ y, S y = true → S2 y = true := fun y hy => (hv.sub y).2 (.inl hy)
  have hxr : (M.refs x).1 = o.refsL := by unfold Hp.refs; rw [ho]
  refine ⟨fun y hy => ?_, fun y hy h0 => hmono y (h.rts y hy h0), fun y hy => ?_, fun y hy => ?_, ?_⟩
  · rcases (hv.sub y).1 hy with h1 | ⟨h1, j, h2, h3⟩
    · exact h.sound y h1
    · exact .step (h.sound x (h.inS x (by simp))) ho (mem_gI.2 ⟨j, h2, h3⟩)
  · cases hs : S y with
    | false => exact .inl ((hv.mem y).2 (.inr ⟨hs, hy⟩))
    | true =>
      rcases h.cls y hs with h1 | h1
      · rcases List.mem_cons.1 h1 with h2 | h2
        · right
          intro z hz
          rw [h2, hxr] at hz
          obtain ⟨j, hj, h3⟩ := mem_gI.1 hz
          have := hk.refTo ho hz
          exact (hv.sub z).2 (.inr ⟨by omega, j, hj, h3⟩)
        · exact .inl ((hv.mem y).2 (.inl h2))
      · exact .inr (fun z hz => hmono z (h1 z hz))
  · rcases (hv.mem y).1 hy with h1 | ⟨_, h1⟩
    · exact hmono y (h.inS y (List.mem_cons_of_mem _ h1))
    · exact h1
  · have h1 := hv.num
    have h2 := h.len
    simp only [List.length_cons] at h2
    omega
theorem RInv.done {M : Hp} (hk : M.Ok) {roots : List Int} (hb : ¬ M.badRoot roots) {S : Int → Bool} (h : RInv M roots S []) (x : Int) : S x = true ↔ x ∈ M.reachL roots := by
  rw [hk.mem_reach hb]
  constructor
  · exact h.sound x
  · intro hr
    induction hr with
    | root h1 h2 => exact h.rts _ h1 h2
    | step h1 h2 h3 ih =>
      rcases h.cls _ ih with h4 | h4
      · cases h4
      · refine h4 _ ?_
        unfold Hp.refs
        rw [h2]
        exact h3
theorem hreach_nope (w : World) (v l : Value) (h : HNope w v) : Calls Tryz.prog 40 #[v, l] w (Exact w (.tuple #[.slice none 0 0, .int .i64 1])) := by
  refine calls_abs fun R hR => ?_
  have h1 := hnone_any w v h
  clear h
  go_enter Tryz.func40, Tryz.ntmps40
  go_wp2_with fail
  refine h1.mono ?_
  rintro e _ ⟨rfl, rfl⟩
  go_wp2_with fail
  exact hR.out _ _ ⟨rfl, rfl⟩
section
variable {L : Nat → Option Lb} {hb : Nat} {M : Hp} {X : HX}
theorem hreach_rep (w : World) (h : HRep w L hb M X) (hk : M.Ok) (ra : Option Addr) (rn rc : Nat) (roots : List Int) (hlen : roots.length = rn) (hr : Read w (.slice ra rn rc) roots) (hrn : rn ≤ 1000) (hwf : ∀ x, x ∈ roots → wfI x) :
    Calls Tryz.prog 40 #[.pointer (some ⟨hb, 0, none⟩), .slice ra rn rc] w (TwoL w (M.reach roots)) := by
  refine calls_abs fun R hR => ?_
  have hmf : ∀ (fn : Fn) (first cap : Array Value) (w : World), (Instr.makeFunc fn first cap).run Tryz.prog w = .ok (.func fn first cap) w := fun _ _ _ _ => rfl
  have hmm : ∀ wx : World, (Instr.makeMap 94 none).run Tryz.prog wx = .ok (.map (some wx.heap.size)) (wx.alloc (.map #[] 0)) := fun _ => by kernel_rfl
  have h1 := hnone_rep w h
  have HK := Lib.hid hk
  have HLEN := Lib.hid hlen
  have HP := Lib.hid h
  have HR := Lib.hid hr
  have HWF := Lib.hid hwf
  clear h hk hr hlen hwf
  go_enter Tryz.func40, Tryz.ntmps40
  go_wp2_with fail
  refine h1.mono ?_
  rintro e _ ⟨rfl, rfl⟩
  clear h1
  go_wp2_with fail
  have HS1 : Hid (Seen (((w.alloc (.map #[] 0)).alloc (.cells #[.map (some w.heap.size)] 94)).alloc (.cells #[.slice none 0 0] 23)) (w.heap.size + 3) (w.heap.size + 1) (w.heap.size + 1 + 1) w.heap.size (.slice none 0 0) (fun _ => false) []) := by
    refine ⟨?_, ?_, Qsl.nil _ _, ?_, ⟨by omega, by omega, by omega, by omega, by omega, by omega⟩, by simp⟩
    · have := Row.new (w.alloc (.map #[] 0)) 94 [.map (some w.heap.size)]
      rw [World.size_alloc] at this
      exact this.alloc _
    · have := Row.new ((w.alloc (.map #[] 0)).alloc (.cells #[.map (some w.heap.size)] 94)) 23 [.slice none 0 0]
      rw [World.size_alloc, World.size_alloc] at this
      exact this
    · have h0 : cntS (fun _ => false) = 0 := cnt_zero (fun _ _ => rfl)
      rw [h0]
      exact ((SetAt.made w).only ((Only.refl [] _).alloc _) (by simp)).only ((Only.refl [] _).alloc _) (by simp)
  have HO1 : Hid (Only [] w (((w.alloc (.map #[] 0)).alloc (.cells #[.map (some w.heap.size)] 94)).alloc (.cells #[.slice none 0 0] 23))) := (((Only.refl [] w).alloc _).alloc _).alloc _
  generalize ((w.alloc (.map #[] 0)).alloc (.cells #[.map (some w.heap.size)] 94)).alloc (.cells #[.slice none 0 0] 23) = w1 at *
  obtain ⟨mb, hmb⟩ : ∃ z, z = w.heap.size := ⟨_, rfl⟩
  obtain ⟨B, hB⟩ : ∃ z, z = w.heap.size + 3 := ⟨_, rfl⟩
  obtain ⟨vb, hvb⟩ : ∃ z, z = w.heap.size + 1 := ⟨_, rfl⟩
  obtain ⟨lb, hlb⟩ : ∃ z, z = w.heap.size + 1 + 1 := ⟨_, rfl⟩
  have HBS : Hid (w.heap.size ≤ mb ∧ w.heap.size ≤ B ∧ w.heap.size ≤ vb ∧ w.heap.size ≤ lb) := ⟨by omega, by omega, by omega, by omega⟩
  rw [← hlb, ← hvb, ← hB, ← hmb] at HS1
  rw [← hlb, ← hvb, ← hmb]
  clear hmm hlb hvb hB hmb
  go_loopw [18] (fun iv wr => ∃ i : Nat, i ≤ rn ∧ iv = .int .i64 i ∧ wr = w1 ∧ ∀ j, j < i → gI roots j = 0 ∨ (M.ob (gI roots j)).isSome = true) (fun iv _ => rn - (intOf iv).toNat)
  case atStart => exact ⟨0, by omega, rfl, rfl, fun j hj => by omega⟩
  case round =>
    obtain ⟨i, hi, rfl, rfl, hok⟩ := hrel
    have HOK := Lib.hid hok
    clear hok
    by_cases hlt : i < rn
    · have hlt1 : (i : Int) < rn := by omega
      have hi0 : (0 : Int) ≤ i := by omega
      obtain ⟨b, o, rfl, hc⟩ : ∃ b o, ra = some ⟨b, o, none⟩ ∧ wr.cell? ⟨b, o + i, none⟩ = some (.int .i64 (gI roots i)) := by
        have hlen := HLEN.out
        rcases HR.out with ⟨b, o, c, e, hc⟩ | ⟨oa, c, e, h0⟩
        · cases e; exact ⟨b, o, rfl, HO1.out.cellN (hc i (by omega))⟩
        · rw [h0] at hlen; simp at hlen; omega
      have hwx := HWF.out (gI roots i) (mem_gI.2 ⟨i, by rw [HLEN.out]; exact hlt, rfl⟩)
      obtain ⟨x, hxe⟩ : ∃ z, z = gI roots i := ⟨_, rfl⟩
      have HXE := Lib.hid hxe
      rw [← hxe] at hc hwx
      clear hxe
      have cm := (HP.out.only0 HO1.out).cells.2.1
      by_cases hx0 : x = 0
      · have HN : Hid (∀ j, j < i + 1 → gI roots j = 0 ∨ (M.ob (gI roots j)).isSome = true) := fun j hj => by
          by_cases e : j = i
          · rw [e, ← HXE.out]; exact .inl hx0
          · exact HOK.out j (by omega)
        clear HXE
        subst hx0
        go_wp2_with fail
        exact ⟨⟨i + 1, by omega, by go_num, trivial, HN.out⟩, by simp [intOf]; omega⟩
      · have hxb : (x != 0) = true := by simpa using hx0
        cases hob : M.ob x with
        | none =>
          have hl := (HP.out.only0 HO1.out).look_none hwx hob
          have HBAD : Hid (M.badRoot roots) := ⟨x, mem_gI.2 ⟨i, by rw [HLEN.out]; exact hlt, HXE.out.symm⟩, hx0, hob⟩
          clear hwx hob
          go_wp2_with fail
          refine hR.out _ _ ⟨.slice none 0 0, ?_, ?_, HO1.out⟩
          · unfold Hp.reach; rw [if_pos HBAD.out]; rfl
          · unfold Hp.reach; rw [if_pos HBAD.out]; exact Ints.nil _ _
        | some o2 =>
          have hl := (HP.out.only0 HO1.out).look_some hwx hob
          have HN : Hid (∀ j, j < i + 1 → gI roots j = 0 ∨ (M.ob (gI roots j)).isSome = true) := fun j hj => by
            by_cases e : j = i
            · rw [e, ← HXE.out, hob]; exact .inr rfl
            · exact HOK.out j (by omega)
          clear hwx hob
          go_wp2_with fail
          exact ⟨⟨i + 1, by omega, by go_num, trivial, HN.out⟩, by simp [intOf]; omega⟩
    · obtain rfl : i = rn := by omega
      have hlt1 : ¬ (i : Int) < (i : Int) := by omega
      have HNB : Hid (¬ M.badRoot roots) := by
        rintro ⟨x, hx, h0, hn⟩
        obtain ⟨j, hj, rfl⟩ := mem_gI.1 hx
        rcases HOK.out j (by rw [← HLEN.out]; exact hj) with h7 | h7
        · exact h0 h7
        · rw [hn] at h7; simp at h7
      have HHW : Hid (∀ j, j < i → gI roots j = 0 ∨ (1 ≤ gI roots j ∧ gI roots j ≤ 192)) := fun j hj => by
        rcases HOK.out j hj with h7 | h7
        · exact .inl h7
        · obtain ⟨o, ho⟩ := Option.isSome_iff_exists.1 h7
          exact .inr (HK.out.hr _ o ho)
      have cvis := visit_any HS1.out ra i rc roots HLEN.out (HR.out.only HO1.out (by simp)) (fun h0 k hk => by
        have h7 := HR.out.lt (by rw [HLEN.out]; exact h0) hk
        have h8 := HBS.out
        refine ⟨by omega, by omega, by simp [Value.ownBlock]⟩) hrn HHW.out (by simp)
      clear hlt
      go_wp2_with fail
      refine cvis.mono ?_
      rintro e w2 ⟨rfl, lv2, S2, Q2, hs2, hvo, ho2, how2⟩
      have HS2 := Lib.hid hs2
      have HI2 : Hid (RInv M roots S2 Q2) := RInv.start (by rw [HLEN.out]; exact hvo)
      have HO2 : Hid (Only [] w w2) := by
        have p : OnlyP (fun _ => False) w w2 := (HO1.out.toP0).trans ho2 (fun z hz => .inr (by
          have h8 := HBS.out
          rcases hz with hz | hz | hz
          · omega
          · omega
          · cases hz))
        exact ⟨p.os, p.tape, p.output, p.size, fun k hk _ => p.block k hk id⟩
      have HB2 : Hid (∀ k, lv2.ownBlock = some k → w.heap.size ≤ k) := fun k hk => by
        rcases how2 k hk with h7 | h7
        · cases h7
        · exact Nat.le_trans HO1.out.size h7
      clear hs2 hvo ho2 how2 cvis HS1 HO1 HHW HOK
      go_wp2_with fail
      go_loopw [] (fun wr => ∃ lv S Q, Seen wr B vb lb mb lv S Q ∧ RInv M roots S Q ∧ Only [] w wr ∧ ∀ k, lv.ownBlock = some k → w.heap.size ≤ k) (fun wr => reachM wr B vb lb mb)
      case atStart => exact ⟨lv2, S2, Q2, HS2.out, HI2.out, HO2.out, HB2.out⟩
      case round =>
        clear HS2 HI2 HO2 HB2
        obtain ⟨lv, S, Q, hs, hi2, ho, hb⟩ := hrel
        have HS := Lib.hid hs
        have HI := Lib.hid hi2
        have HO := Lib.hid ho
        have HB := Lib.hid hb
        have HM := Lib.hid (reachM_eq hs)
        cases Q with
        | nil =>
          obtain ⟨a2, c2, rfl⟩ := hs.qs.len
          have cl := hs.rl.cell 0 rfl
          have cv := hs.rv.cell 0 rfl
          have hkeys := keysSet_any wr (some mb)
          have hsort := sortedSet_any hs.st (by have := cntS_le S; omega) (Hp.reachL_sorted M roots) (fun x hx => by
            have := ((HK.out.mem_reach HNB.out).1 hx).some HK.out HNB.out
            exact wfI_mk (by omega)) (fun x _ => hi2.done HK.out HNB.out x)
          have HEQ : Hid (M.reach roots = (M.reachL roots, 0)) := by show _ = _; unfold Hp.reach; rw [if_neg HNB.out]
          clear hs hi2 ho hb HM
          go_wp2_with fail
          refine hkeys.mono ?_
          rintro e _ ⟨rfl, rfl⟩
          go_wp2_with fail
          refine hsort.mono ?_
          rintro e w5 ⟨v, rfl, hi5, ho5⟩
          have HI5 : Hid (Ints w5 w.heap.size v (M.reachL roots)) := hi5.base HO.out.size
          have HO5 : Hid (Only [] w w5) := HO.out.trans ho5 (by simp)
          clear hkeys hsort hi5 ho5
          go_wp2_with fail
          refine hR.out _ _ ⟨v, ?_, ?_, HO5.out⟩
          · rw [HEQ.out]; rfl
          · rw [HEQ.out]; exact HI5.out
        | cons x Q =>
          obtain ⟨g, off, cap, rfl, hc, hcap, hq⟩ := hs.qs.head
          have cl := hs.rl.cell 0 rfl
          have cv := hs.rv.cell 0 rfl
          have fl := hs.rl.free 0
          obtain ⟨o, hob⟩ := Option.isSome_iff_exists.1 ((hi2.sound x (hi2.inS x (by simp))).some HK.out HNB.out).1
          have hl0 : (0 : Int) < ((Q.length + 1 : Nat) : Int) := by omega
          have hl1 : 0 < Q.length + 1 := by omega
          have hl2 : (1 : Int) ≤ ((Q.length + 1 : Nat) : Int) := by omega
          have hl3 : ((Q.length + 1 : Nat) : Int) ≤ cap := by omega
          have hwx : wfI x := wfI_mk (by have := HK.out.hr x o hob; omega)
          have hsz := HS.out.bw
          have HOB := Lib.hid hob
          have hBS := HBS.out
          by_cases hc1 : cap = 1
          · subst hc1
            obtain rfl : Q = [] := List.eq_nil_of_length_eq_zero (by omega)
            simp only [List.length_nil, Nat.zero_add] at cl
            clear hl0 hl1 hl2 hl3 hcap
            have hq2 : Qsl wr B (.slice (some ⟨g, off, none⟩) 0 0) [] := hs.qs.last
            have HSN : Hid (Seen (wr.setCell ⟨lb, 0, none⟩ (.slice (some ⟨g, off, none⟩) 0 0)) B vb lb mb (.slice (some ⟨g, off, none⟩) 0 0) S []) := HS.out.put hq2
            have HON : Hid (Only [] w (wr.setCell ⟨lb, 0, none⟩ (.slice (some ⟨g, off, none⟩) 0 0))) := HO.out.set (.inr (by simp; omega)) _
            have HGB : Hid (w.heap.size ≤ g ∧ g < wr.heap.size) := ⟨HB.out g rfl, (HS.out.qs.own g rfl).2⟩
            have HWS : Hid (wr.heap.size ≤ (wr.setCell ⟨lb, 0, none⟩ (.slice (some ⟨g, off, none⟩) 0 0)).heap.size) := by show _ ≤ _; simp
            have cm := (HP.out.only0 HON.out).cells.2.1
            have cmw := (HP.out.only0 HO.out).cells.2.1
            have hl := (HP.out.only0 HON.out).look_some hwx hob
            have href := refsT_any _ (HP.out.only0 HON.out) HK.out hob
            clear hs hi2 ho hb hq hq2 hwx hob hsz hBS
            go_wp2_with fail
            refine href.mono ?_
            rintro e w4 ⟨rv, rfl, hri, hor⟩
            have HS4 := Lib.hid (HSN.out.only hor)
            have HO4 : Hid (Only [] w w4) := HON.out.trans hor (by simp)
            obtain ⟨ra2, rc2, rfl⟩ := hri.len
            have cvis := visit_any HS4.out ra2 o.refsL.length rc2 o.refsL rfl hri.read (fun _ k hk => by
              have h7 := (hri.own k hk).1
              have h8 := HWS.out
              have h9 := HGB.out
              have h10 := HSN.out.ne
              have h11 := HS.out.bw
              refine ⟨by omega, by omega, ?_⟩
              intro e
              have e2 : g = k := by simpa [Value.ownBlock] using e
              omega) (by have := Th.refsN_len o o.slots.length; have := (HK.out.th x o HOB.out).le; show (o.refsN o.slots.length).length ≤ 1000; omega) (fun j hj => .inr (HK.out.refTo HOB.out (mem_gI.2 ⟨j, hj, rfl⟩)).2) (by have h1 := HI.out.len; have h2 := cntS_le S; rw [List.length_cons] at h1; omega)
            clear href hri hor cm cmw hl cl cv fl
            go_wp2_with fail
            refine cvis.mono ?_
            rintro e w5 ⟨rfl, lv5, S5, Q5, hs5, hvo, ho5, how5⟩
            have HS5 := Lib.hid hs5
            have HI5 : Hid (RInv M roots S5 Q5) := HI.out.step HK.out HOB.out hvo
            have HO5 : Hid (Only [] w w5) := by
              have p : OnlyP (fun _ => False) w w5 := (HO4.out.toP0).trans ho5 (fun z hz => .inr (by
                have h8 := HBS.out
                have h9 := HGB.out
                rcases hz with hz | hz | hz
                · omega
                · omega
                · have e2 : g = z := by simpa [Value.ownBlock] using hz
                  omega))
              exact ⟨p.os, p.tape, p.output, p.size, fun k hk _ => p.block k hk id⟩
            have HB5 : Hid (∀ k, lv5.ownBlock = some k → w.heap.size ≤ k) := fun k hk => by
              rcases how5 k hk with h7 | h7
              · have e2 : g = k := by simpa [Value.ownBlock] using h7
                have := HGB.out.1
                omega
              · exact Nat.le_trans HO4.out.size h7
            have HLT : Hid (reachM w5 B vb lb mb < reachM wr B vb lb mb) := by
              have q1 := reachM_eq hs5
              have q2 := HM.out
              have q3 := hvo.num
              simp only [List.length_cons] at q2
              show _ < _
              omega
            clear hs5 hvo ho5 how5 cvis
            go_wp2_with fail
            exact ⟨⟨lv5, S5, Q5, HS5.out, HI5.out, HO5.out, HB5.out⟩, HLT.out⟩
          · have hc2 : 1 < cap := by omega
            obtain ⟨qn, hqn⟩ : ∃ z, z = Q.length := ⟨_, rfl⟩
            have hq2 : Qsl wr B (.slice (some ⟨g, off + 1, none⟩) Q.length (cap - 1)) Q := hq
            rw [← hqn] at hl0 hl1 hl2 hl3 cl hcap hq2
            have HQN := Lib.hid hqn
            have HSN : Hid (Seen (wr.setCell ⟨lb, 0, none⟩ (.slice (some ⟨g, off + 1, none⟩) qn (cap - 1))) B vb lb mb (.slice (some ⟨g, off + 1, none⟩) qn (cap - 1)) S Q) := HS.out.put hq2
            have HON : Hid (Only [] w (wr.setCell ⟨lb, 0, none⟩ (.slice (some ⟨g, off + 1, none⟩) qn (cap - 1)))) := HO.out.set (.inr (by simp; omega)) _
            have HGB : Hid (w.heap.size ≤ g ∧ g < wr.heap.size) := ⟨HB.out g rfl, (HS.out.qs.own g rfl).2⟩
            have HWS : Hid (wr.heap.size ≤ (wr.setCell ⟨lb, 0, none⟩ (.slice (some ⟨g, off + 1, none⟩) qn (cap - 1))).heap.size) := by show _ ≤ _; simp
            have cm := (HP.out.only0 HON.out).cells.2.1
            have cmw := (HP.out.only0 HO.out).cells.2.1
            have hl := (HP.out.only0 HON.out).look_some hwx hob
            have href := refsT_any _ (HP.out.only0 HON.out) HK.out hob
            clear hs hi2 ho hb hqn hq hq2 hwx hob hsz hBS hc1
            go_wp2_with fail
            refine href.mono ?_
            rintro e w4 ⟨rv, rfl, hri, hor⟩
            have HS4 := Lib.hid (HSN.out.only hor)
            have HO4 : Hid (Only [] w w4) := HON.out.trans hor (by simp)
            obtain ⟨ra2, rc2, rfl⟩ := hri.len
            have cvis := visit_any HS4.out ra2 o.refsL.length rc2 o.refsL rfl hri.read (fun _ k hk => by
              have h7 := (hri.own k hk).1
              have h8 := HWS.out
              have h9 := HGB.out
              have h10 := HSN.out.ne
              have h11 := HS.out.bw
              refine ⟨by omega, by omega, ?_⟩
              intro e
              have e2 : g = k := by simpa [Value.ownBlock] using e
              omega) (by have := Th.refsN_len o o.slots.length; have := (HK.out.th x o HOB.out).le; show (o.refsN o.slots.length).length ≤ 1000; omega) (fun j hj => .inr (HK.out.refTo HOB.out (mem_gI.2 ⟨j, hj, rfl⟩)).2) (by have h1 := HI.out.len; have h2 := cntS_le S; rw [List.length_cons] at h1; omega)
            clear href hri hor cm cmw hl cl cv fl
            go_wp2_with fail
            refine cvis.mono ?_
            rintro e w5 ⟨rfl, lv5, S5, Q5, hs5, hvo, ho5, how5⟩
            have HS5 := Lib.hid hs5
            have HI5 : Hid (RInv M roots S5 Q5) := HI.out.step HK.out HOB.out hvo
            have HO5 : Hid (Only [] w w5) := by
              have p : OnlyP (fun _ => False) w w5 := (HO4.out.toP0).trans ho5 (fun z hz => .inr (by
                have h8 := HBS.out
                have h9 := HGB.out
                rcases hz with hz | hz | hz
                · omega
                · omega
                · have e2 : g = z := by simpa [Value.ownBlock] using hz
                  omega))
              exact ⟨p.os, p.tape, p.output, p.size, fun k hk _ => p.block k hk id⟩
            have HB5 : Hid (∀ k, lv5.ownBlock = some k → w.heap.size ≤ k) := fun k hk => by
              rcases how5 k hk with h7 | h7
              · have e2 : g = k := by simpa [Value.ownBlock] using h7
                have := HGB.out.1
                omega
              · exact Nat.le_trans HO4.out.size h7
            have HLT : Hid (reachM w5 B vb lb mb < reachM wr B vb lb mb) := by
              have q1 := reachM_eq hs5
              have q2 := HM.out
              have q3 := hvo.num
              simp only [List.length_cons] at q2
              show _ < _
              omega
            clear hs5 hvo ho5 how5 cvis
            go_wp2_with fail
            exact ⟨⟨lv5, S5, Q5, HS5.out, HI5.out, HO5.out, HB5.out⟩, HLT.out⟩
end
end Go.Proofs.YtkjocehdbpekjaaGreat
