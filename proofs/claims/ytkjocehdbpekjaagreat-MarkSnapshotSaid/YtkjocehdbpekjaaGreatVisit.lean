/- Reach$1: the closure that notes what is new. -/
import Derived.Test.YtkjocehdbpekjaaGreatSetQ
import Derived.Test.YtkjocehdbpekjaaGreatReach
namespace Go.Proofs.YtkjocehdbpekjaaGreat
open Go.RowKit Go.Maps
set_option maxHeartbeats 6400000
set_option maxRecDepth 100000
set_option linter.unusedVariables false
/-- How many of the handles are in a set. -/
def cntS (S : Int → Bool) : Nat := cnt (fun k => S ((k : Int) + 1)) 192
theorem cntS_le (S : Int → Bool) : cntS S ≤ 192 := cnt_le _ _
/-- The first i numbers of l are noted. -/
structure VisOk (S : Int → Bool) (Q : List Int) (S2 : Int → Bool) (Q2 : List Int) (l : List Int) (i : Nat) : Prop where
  sub : ∀ x, S2 x = true ↔ S x = true ∨ (x ≠ 0 ∧ ∃ j, j < i ∧ gI l j = x)
  mem : ∀ x, x ∈ Q2 ↔ x ∈ Q ∨ (S x = false ∧ S2 x = true)
  num : cntS S2 + Q.length = cntS S + Q2.length
section
variable {S S2 : Int → Bool} {Q Q2 l : List Int} {i : Nat}
theorem VisOk.start : VisOk S Q S Q l 0 := ⟨fun x => ⟨.inl, fun h => by rcases h with h | ⟨_, j, h, _⟩; exact h; omega⟩, fun x => ⟨.inl, fun h => by rcases h with h | ⟨h1, h2⟩; exact h; rw [h1] at h2; cases h2⟩, rfl⟩
theorem VisOk.skip (h : VisOk S Q S2 Q2 l i) (hx : gI l i = 0 ∨ S2 (gI l i) = true) : VisOk S Q S2 Q2 l (i + 1) :=
  ⟨fun x => by
    rw [h.sub x]
    constructor
    · rintro (h1 | ⟨h1, j, h2, h3⟩)
      · exact .inl h1
      · exact .inr ⟨h1, j, by omega, h3⟩
    · rintro (h1 | ⟨h1, j, h2, h3⟩)
      · exact .inl h1
      · by_cases e : j = i
        · rw [e] at h3
          rcases hx with hx | hx
          · exact absurd (h3.symm.trans hx) h1
          · rw [h3] at hx; exact (h.sub x).1 hx
        · exact .inr ⟨h1, j, by omega, h3⟩, h.mem, h.num⟩
theorem VisOk.add (h : VisOk S Q S2 Q2 l i) {x : Int} (hx : gI l i = x) (h0 : x ≠ 0) (hr : 1 ≤ x ∧ x ≤ 192) (hS : S2 x = false) : VisOk S Q (fun j => if j = x then true else S2 j) (Q2 ++ [x]) l (i + 1) ∧ cntS (fun j => if j = x then true else S2 j) = cntS S2 + 1 := by
  have hcnt : cntS (fun j => if j = x then true else S2 j) = cntS S2 + 1 := by
    obtain ⟨k, hk, rfl⟩ : ∃ k : Nat, k < 192 ∧ x = (k : Int) + 1 := ⟨(x - 1).toNat, by omega, by omega⟩
    have h1 : cnt (fun j : Nat => if (j : Int) + 1 = (k : Int) + 1 then true else S2 ((j : Int) + 1)) 192 = cnt (up (fun j : Nat => S2 ((j : Int) + 1)) k true) 192 := cnt_congr (fun j _ => by
      by_cases e : j = k
      · rw [e, up_same, if_pos rfl]
      · rw [up_other _ _ e, if_neg (by omega)])
    show cnt (fun j : Nat => if (j : Int) + 1 = (k : Int) + 1 then true else S2 ((j : Int) + 1)) 192 = _
    rw [h1]
    exact cnt_set hk hS
  refine ⟨⟨fun y => ?_, fun y => ?_, ?_⟩, hcnt⟩
  · show (if y = x then true else S2 y) = true ↔ _
    by_cases e : y = x
    · rw [if_pos e]
      exact ⟨fun _ => .inr ⟨by rw [e]; exact h0, i, by omega, by rw [hx, e]⟩, fun _ => rfl⟩
    · rw [if_neg e, h.sub y]
      constructor
      · rintro (h1 | ⟨h1, j, h2, h3⟩)
        · exact .inl h1
        · exact .inr ⟨h1, j, by omega, h3⟩
      · rintro (h1 | ⟨h1, j, h2, h3⟩)
        · exact .inl h1
        · by_cases ej : j = i
          · rw [ej, hx] at h3; exact absurd h3.symm e
          · exact .inr ⟨h1, j, by omega, h3⟩
  · rw [List.mem_append, h.mem y]
    show _ ↔ y ∈ Q ∨ (S y = false ∧ (if y = x then true else S2 y) = true)
    by_cases e : y = x
    · rw [if_pos e]
      constructor
      · rintro ((h1 | h1) | h1)
        · exact .inl h1
        · exact .inr ⟨h1.1, rfl⟩
        · refine .inr ⟨?_, rfl⟩
          cases hs : S y with
          | false => rfl
          | true =>
            have := (h.sub y).2 (.inl hs)
            rw [e, hS] at this
            cases this
      · intro _; right; simp [e]
    · rw [if_neg e]
      constructor
      · rintro (h1 | h1)
        · exact h1
        · simp at h1; exact absurd h1 e
      · intro h1; exact .inl h1
  · rw [hcnt, List.length_append]
    have := h.num
    simp only [List.length_cons, List.length_nil]
    omega
end
/-- What the closure captured, and what it points to. -/
structure Seen (w : World) (B vb lb mb : Nat) (lv : Value) (S : Int → Bool) (Q : List Int) : Prop where
  rv : Row w vb 94 [.map (some mb)]
  rl : Row w lb 23 [lv]
  qs : Qsl w B lv Q
  st : SetAt w mb (cntS S) S
  ne : vb ≠ lb ∧ mb ≠ vb ∧ mb ≠ lb ∧ vb < B ∧ lb < B ∧ mb < B
  bw : B ≤ w.heap.size
theorem visit_any {w : World} {B vb lb mb : Nat} {lv : Value} {S : Int → Bool} {Q : List Int} (h : Seen w B vb lb mb lv S Q) (a : Option Addr) (n c : Nat) (l : List Int) (hlen : l.length = n) (hr : Read w (.slice a n c) l)
    (hv : 0 < n → ∀ k, (Value.slice a n c).ownBlock = some k → k ≠ lb ∧ k ≠ mb ∧ lv.ownBlock ≠ some k) (hn : n ≤ 1000) (hw : ∀ j, j < n → gI l j = 0 ∨ (1 ≤ gI l j ∧ gI l j ≤ 192)) (hQ : Q.length ≤ 192) :
    Calls Tryz.prog 86 #[.slice a n c, .pointer (some ⟨vb, 0, none⟩), .pointer (some ⟨lb, 0, none⟩)] w (fun e w' => e = .returned (.tuple #[]) ∧ ∃ lv2 S2 Q2, Seen w' B vb lb mb lv2 S2 Q2 ∧ VisOk S Q S2 Q2 l n ∧ OnlyP (fun k => k = lb ∨ k = mb ∨ lv.ownBlock = some k) w w' ∧ ∀ k, lv2.ownBlock = some k → lv.ownBlock = some k ∨ w.heap.size ≤ k) := by
  refine calls_abs fun R hR => ?_
  have HS0 := Lib.hid h
  have HRC : Hid (∀ wx, OnlyP (fun k => k = lb ∨ k = mb ∨ lv.ownBlock = some k) w wx → ∀ i, i < n → ∃ b o, a = some ⟨b, o, none⟩ ∧ wx.cell? ⟨b, o + i, none⟩ = some (.int .i64 (gI l i))) := fun wx hwx i hi => by
    rcases hr with ⟨b, o, c, e, hc⟩ | ⟨oa, c, e, h0⟩
    · cases e
      refine ⟨b, o, rfl, hwx.cell (hc i (by omega)) ?_⟩
      have := hv (by omega) b rfl
      rintro (e | e | e)
      · exact this.1 e
      · exact this.2.1 e
      · exact this.2.2 e
    · rw [h0] at hlen; simp at hlen; omega
  have HW := Lib.hid hw
  have HQ := Lib.hid hQ
  clear h hr hv hw hlen hQ
  go_enter Tryz.func86, Tryz.ntmps86
  go_wp2_with fail
  go_loopw [8] (fun iv wr => ∃ (i : Nat) (lv2 : Value) (S2 : Int → Bool) (Q2 : List Int), i ≤ n ∧ iv = .int .i64 i ∧ Seen wr B vb lb mb lv2 S2 Q2 ∧ VisOk S Q S2 Q2 l i ∧ OnlyP (fun k => k = lb ∨ k = mb ∨ lv.ownBlock = some k) w wr ∧ ∀ k, lv2.ownBlock = some k → lv.ownBlock = some k ∨ w.heap.size ≤ k) (fun iv _ => n - (intOf iv).toNat)
  case atStart => exact ⟨0, lv, S, Q, by omega, rfl, HS0.out, VisOk.start, OnlyP.refl _ _, fun k hk => .inl hk⟩
  case round =>
    clear HS0
    obtain ⟨i, lv2, S2, Q2, hi, rfl, hs, hvo, ho, hown⟩ := hrel
    have HS := Lib.hid hs
    have HVO := Lib.hid hvo
    have HO := Lib.hid ho
    have HOW := Lib.hid hown
    have cv := hs.rv.cell 0 rfl
    have cl := hs.rl.cell 0 rfl
    have fl := hs.rl.free 0
    clear hs hvo ho hown
    by_cases hlt : i < n
    · have hlt1 : (i : Int) < n := by omega
      have hi0 : (0 : Int) ≤ i := by omega
      obtain ⟨b, o, rfl, hc⟩ := HRC.out wr HO.out i hlt
      have hw1 := HW.out i hlt
      obtain ⟨x, hxe⟩ : ∃ z, z = gI l i := ⟨_, rfl⟩
      have HXE := Lib.hid hxe
      rw [← hxe] at hc hw1
      clear hxe
      by_cases hx0 : x = 0
      · have HVN := Lib.hid (HVO.out.skip (.inl (by rw [← HXE.out]; exact hx0)))
        clear HXE
        subst hx0
        clear hw1
        go_wp2_with fail
        exact ⟨⟨i + 1, lv2, S2, Q2, by omega, by go_num, HS.out, HVN.out, HO.out, HOW.out⟩, by simp [intOf]; omega⟩
      · have hxb : (x != 0) = true := by simpa using hx0
        have hxr : 1 ≤ x ∧ x ≤ 192 := by omega
        have hwx : wfI x := wfI_mk (by omega)
        have hlook := HS.out.st.look hwx
        cases hSx : S2 x with
        | true =>
          rw [hSx] at hlook
          have HVN := Lib.hid (HVO.out.skip (.inr (by rw [← HXE.out]; exact hSx)))
          clear hw1 hxr hwx hSx
          go_wp2_with fail
          exact ⟨⟨i + 1, lv2, S2, Q2, by omega, by go_num, HS.out, HVN.out, HO.out, HOW.out⟩, by simp [intOf]; omega⟩
        | false =>
          rw [hSx] at hlook
          obtain ⟨hva, hcn⟩ := HVO.out.add (x := x) HXE.out.symm hx0 hxr hSx
          have HVN := Lib.hid hva
          have hc192 := cntS_le S2
          obtain ⟨w2, hst, hset, hgr⟩ := HS.out.st.store (by omega) hwx
          have HST2 : Hid (SetAt w2 mb (cntS (fun j => if j = x then true else S2 j)) (fun j => if j = x then true else S2 j)) := by show SetAt _ _ _ _; rw [hcn]; exact hset
          have HO2 : Hid (Only [mb] wr w2) := (Only.refl [mb] wr).grown hgr (fun k hk => .inl (by cases hk; simp))
          have hne := HS.out.ne
          have HNE := Lib.hid hne
          have cl2 : w2.cell? ⟨lb, 0, none⟩ = some lv2 := HO2.out.cell cl (by simp; omega)
          have HRV2 := Lib.hid (HO2.out.row HS.out.rv (by simp; omega))
          have HRL2 := Lib.hid (HO2.out.row HS.out.rl (by simp; omega))
          have HQ2 : Hid (Qsl w2 B lv2 Q2) := HS.out.qs.only HO2.out (fun k hk => by have := (HS.out.qs.own k hk).1; simp; omega)
          have HNUM := Lib.hid HVO.out.num
          have HBW := Lib.hid HS.out.bw
          clear hw1 hxr hwx hSx hva hcn hset hgr hne hc192 HVO
          go_wp2_with (at_builtin; refine append_qsl1 rfl _ _ rfl B _ Q2 rfl (HQ2.out.alloc (.cells #[.int .i64 x] 3)) w2.heap.size x rfl ?c1 ?c2 ?c3 ?c4)
          case c1 => exact (Row.new w2 _ [_]).cell 0 rfl
          case c2 => have := HNUM.out; have := HQ.out; have := cntS_le S2; omega
          case c3 => have := HO2.out.size; have := HBW.out; simp; omega
          case c4 =>
            intro v' w3 hq3 ho3 hb3
            obtain ⟨va, vc, rfl⟩ := hq3.len
            generalize (Q2 ++ [x]).length = qn at *
            obtain ⟨n1, n2, n3, n4, n5, n6⟩ := HNE.out
            have hnot : ∀ z, z < B → z ∉ lv2.ownBlock.toList := fun z hz hm => by
              cases e : lv2.ownBlock with
              | none => rw [e] at hm; simp at hm
              | some g =>
                rw [e] at hm
                simp at hm
                have := (HS.out.qs.own g e).1
                omega
            have hrl3 := ho3.row (HRL2.out.alloc (.cells #[.int .i64 x] 3)) (hnot lb n5)
            have cl3 := hrl3.cell 0 rfl
            have fl3 := hrl3.free 0
            have hs4 : Only [lb] w3 (w3.setCell ⟨lb, 0, none⟩ (Value.slice va qn vc)) := (Only.refl [lb] w3).set (.inl (by simp)) _
            have hsz3 : wr.heap.size ≤ w3.heap.size := Nat.le_trans HO2.out.size (Nat.le_trans (by simp) ho3.size)
            have HS4 : Hid (Seen (w3.setCell ⟨lb, 0, none⟩ (Value.slice va qn vc)) B vb lb mb (Value.slice va qn vc) (fun j => if j = x then true else S2 j) (Q2 ++ [x])) :=
              ⟨(ho3.row (HRV2.out.alloc _) (hnot vb n4)).other (Ne.symm n1) _, hrl3.set 0 _, hq3.only hs4 (fun k hk => by have := (hq3.own k hk).1; simp; omega),
                ((HST2.out.only ((Only.refl [] w2).alloc _) (by simp)).only ho3 (hnot mb n6)).only hs4 (by simp; omega), ⟨n1, n2, n3, n4, n5, n6⟩, Nat.le_trans HBW.out (Nat.le_trans hsz3 hs4.size)⟩
            have hP : OnlyP (fun k => k = mb ∨ lv2.ownBlock = some k ∨ k = lb) wr (w3.setCell ⟨lb, 0, none⟩ (Value.slice va qn vc)) := by
              have p1 : OnlyP (fun k => k = mb ∨ lv2.ownBlock = some k ∨ k = lb) wr (w2.alloc (.cells #[.int .i64 x] 3)) := (HO2.out.toP (fun z hz => .inl (.inl (by simpa using hz)))).alloc _
              refine (p1.trans (ho3.toP (S := fun k => lv2.ownBlock = some k) (fun z hz => .inl (by
                cases e : lv2.ownBlock with
                | none => rw [e] at hz; simp at hz
                | some g => rw [e] at hz; simp at hz; rw [hz]))) (fun z hz => .inl (.inr (.inl hz)))).set (.inl (.inr (.inr rfl))) _
            have HO4 : Hid (OnlyP (fun k => k = lb ∨ k = mb ∨ lv.ownBlock = some k) w (w3.setCell ⟨lb, 0, none⟩ (Value.slice va qn vc))) := HO.out.trans hP (fun z hz => by
              rcases hz with hz | hz | hz
              · exact .inl (.inr (.inl hz))
              · rcases HOW.out z hz with h7 | h7
                · exact .inl (.inr (.inr h7))
                · exact .inr h7
              · exact .inl (.inl hz))
            have HOW4 : Hid (∀ k, (Value.slice va qn vc).ownBlock = some k → lv.ownBlock = some k ∨ w.heap.size ≤ k) := fun k hk => by
              rcases hb3 k hk with h7 | h7
              · exact HOW.out k h7
              · right
                have q1 := HO.out.size
                have q2 := HO2.out.size
                have q3 : w2.heap.size ≤ (w2.alloc (.cells #[.int .i64 x] 3)).heap.size := by simp
                omega
            clear hq3 ho3 hb3 hnot hs4 hP hrl3 hsz3 HS HO HOW HRV2 HRL2 HQ2 HST2
            go_wp2_with fail
            exact ⟨⟨i + 1, (Value.slice va qn vc), _, _, by omega, by go_num, HS4.out, HVN.out, HO4.out, HOW4.out⟩, by simp [intOf]; omega⟩
    · obtain rfl : i = n := by omega
      have hlt1 : ¬ (i : Int) < (i : Int) := by omega
      go_wp2_with fail
      go_end0
      exact hR.out _ _ ⟨rfl, lv2, S2, Q2, HS.out, HVO.out, HO.out, HOW.out⟩
end Go.Proofs.YtkjocehdbpekjaaGreat
