/- Law MarkSnapshot: has; the walk. -/
import Derived.Test.YtkjocehdbpekjaaGreatMkDo
namespace Go.Proofs.YtkjocehdbpekjaaGreat
open Go.RowKit Go.Maps
set_option maxHeartbeats 12800000
set_option maxRecDepth 100000
set_option linter.unusedVariables false
theorem mhas_any (w : World) (a : Option Addr) (n c : Nat) (lst : List Int) (hl : lst.length = n) (hn : n ≤ 1000000) (hr : Read w (.slice a n c) lst) (x : Int) : Calls Tryz.prog 50 #[.slice a n c, .int .i64 x] w (Exact w (.bool (decide (x ∈ lst)))) := by
  refine calls_abs fun R hR => ?_
  have HRD := Lib.hid hr
  have HL := Lib.hid hl
  clear hr hl
  go_enter Tryz.func50, Tryz.ntmps50
  go_wp2_with fail
  go_loopw [5] (fun iv wr => ∃ k : Nat, k ≤ n ∧ iv = .int .i64 k ∧ wr = w ∧ Hid (∀ j, j < k → gI lst j ≠ x)) (fun iv _ => n - (intOf iv).toNat)
  case atStart => exact ⟨0, by omega, rfl, rfl, fun j hj => by omega⟩
  case round =>
    obtain ⟨k, hk, rfl, rfl, HB⟩ := hrel
    by_cases hlt : k < n
    · have hlt1 : (k : Int) < n := by omega
      have hk0 : (0 : Int) ≤ k := by omega
      have hkl : k < lst.length := by rw [HL.out]; exact hlt
      obtain ⟨b, o, rfl, hc⟩ := HRD.out.at hkl
      by_cases e : gI lst k = x
      · have hm : decide (x ∈ lst) = true := decide_eq_true (mem_gI.2 ⟨k, hkl, e⟩)
        rw [hm] at hR
        rw [e] at hc
        clear hm e hkl
        go_wp2_with fail
        exact hR.out _ _ ⟨rfl, rfl⟩
      · have eb : (gI lst k == x) = false := by simpa using e
        have HBN : Hid (∀ j, j < k + 1 → gI lst j ≠ x) := fun j hj => by
          by_cases e2 : j = k
          · rw [e2]; exact e
          · exact HB.out j (by omega)
        clear e hkl
        generalize gI lst k = y at hc eb
        go_wp2_with fail
        exact ⟨⟨k + 1, by omega, by go_num, by trivial, HBN⟩, by simp [intOf]; omega⟩
    · obtain rfl : k = n := by omega
      have hlt1 : ¬ (k : Int) < (k : Int) := by omega
      have hm : decide (x ∈ lst) = false := decide_eq_false (fun h => by
        obtain ⟨j, hj, e⟩ := mem_gI.1 h
        exact HB.out j (by have := HL.out; omega) e)
      rw [hm] at hR
      clear hm
      go_wp2_with fail
      exact hR.out _ _ ⟨rfl, rfl⟩
/-- The heaps, the markers, what is known. -/
def SL (hb q p r : Nat) (m0 : Mk) (v : Value) (K : List Int) (m : Mk) : List Asn := ML (FB hb q p r m0 ++ [IntsA v K]) 0 2 hb p m
section
variable {hb q p r : Nat} {m0 m : Mk} {v v' : Value} {K K' : List Int} {w0 w w' : World} {A : Asn}
theorem SL.t2 : Two2 (FB hb q p r m0 ++ [IntsA v K]) 0 2 := ⟨by show 0 < 5; decide, by show 2 < 5; decide, by decide⟩
theorem SL.t2r : Two2 ((FB hb q p r m0 ++ [IntsA v K]) ++ [A]) 0 2 := SL.t2.app A
theorem SL.app : ML ((FB hb q p r m0 ++ [IntsA v K]) ++ [A]) 0 2 hb p m = SL hb q p r m0 v K m ++ [A] := ML.app SL.t2 A
theorem SL.grow (hf : Fam w0 w (SL hb q p r m0 v K m)) (hi : Ints w' 0 v' K') (ho : Only v.ownBlock.toList w w') (hb2 : ∀ g, v'.ownBlock = some g → v.ownBlock = some g ∨ w.heap.size ≤ g) : Fam w0 w' (SL hb q p r m0 v' K' m) := by
  refine hf.turn 4 (A := IntsA v K) (A' := IntsA v' K') rfl fun S hS => ?_
  obtain ⟨_, hS⟩ := hS
  refine ⟨fun k => v'.ownBlock = some k, ⟨hi, fun k => Iff.rfl⟩, fun k hk => ?_, ho.toP (fun z hz => .inl ((hS z).2 (own_mem hz)))⟩
  rcases hb2 k hk with h | h
  · exact .inl ((hS k).2 h)
  · exact .inr h
theorem SL.ints (hf : Fam w0 w (SL hb q p r m0 v K m)) : Ints w 0 v K := hf.ints 4 rfl
end
theorem walk_snapA (pages : Int) (b : Option Addr) (n cap : Nat) (f : Nat → Nat → Int) (a2 : Option Addr) (n2 cap2 : Nat) (f2 : Nat → Int) (b3 : Option Addr) (n3 cap3 : Nat) (f3 : Nat → Nat → Int) (w : World) (hn3 : n3 ≤ 80) (wp : (Lit.int .i64 pages).wf = true) (hd : Recs 4 w b n f) (h2 : Nums w a2 n2 f2) (h3 : Recs 4 w b3 n3 f3) :
    Calls Tryz.prog 8 #[.int .i64 pages, .slice b n cap, .slice a2 n2 cap2, .slice b3 n3 cap3] w fun e w' => e = .returned (.bool true) ∧ Below w.heap.size w w' := by
  refine calls_abs fun R hR => ?_
  by_cases hbig : 300 < n2
  · have hb1 : (300 : Int) < n2 := by omega
    have c4 := msane_any w
    clear hd h2 h3
    go_enter Tryz.func8, Tryz.ntmps8
    go_wp2_with fail
    refine c4.mono ?_
    rintro e w4 ⟨rfl, ho⟩
    have HE : Hid (Below w.heap.size w w4) := ho.bel
    clear ho c4
    go_wp2_with fail
    exact hR.out _ _ ⟨rfl, HE.out⟩
  · have hb1 : ¬ (300 : Int) < n2 := by omega
    have c := mbegun_any w pages b n cap f hd a2 n2 cap2 f2 h2 (by omega)
    have HD := Lib.hid h3
    have HRD : Hid (Read w (.slice a2 n2 cap2) (listF n2 f2)) := numsRead h2
    have HWF := Lib.hid (numsWf h2)
    have HLN : Hid ((listF n2 f2).length = n2) := by show _ = _; simp [listF]
    generalize listF n2 f2 = rts at *
    clear hd h2 h3
    go_enter Tryz.func8, Tryz.ntmps8
    go_wp2_with fail
    refine c.mono ?_
    rintro e w2 (⟨rfl, ho⟩ | ⟨hb, q, p, r, M, rfl, hM, hbad, hf⟩)
    · have HO := Lib.hid ho
      have c4 := msane_any w2
      clear c ho
      go_wp2_with fail
      refine c4.mono ?_
      rintro e w4 ⟨rfl, ho⟩
      have HE : Hid (Below w.heap.size w w4) := bel3 HO.out ho
      clear ho c4
      go_wp2_with fail
      exact hR.out _ _ ⟨rfl, HE.out⟩
    · have hok : ((Mk.start M).shades rts).Ok := Mk.Ok.shades _ _ (Mk.Ok.start hM)
      have HSN0 := Lib.hid (Snap.start hM hbad)
      have HM0 : Hid (((Mk.start M).shades rts).M = M) := Mk.shades_M _ _
      have HNB := Lib.hid hbad
      generalize (Mk.start M).shades rts = m0 at *
      have HOK := Lib.hid hok
      have HF : Hid (Fam w w2 (ML (FB hb q p r m0) 0 2 hb p m0)) := hf
      have HT2 : Hid (Two2 (FB hb q p r m0) 0 2) := ⟨by show 0 < 4; decide, by show 2 < 4; decide, by decide⟩
      have ch := mheap_rep w2 HT2.out HF.out
      clear c hf hok hbad hM
      go_wp2_with fail
      refine ch.mono ?_
      rintro e _ ⟨rfl, rfl⟩
      obtain ⟨hk, L, X, hp⟩ := ML.ph HT2.out HF.out
      have cr := hreach_rep w2 hp hk a2 n2 cap2 rts HLN.out (HRD.out.only HF.out.only (by simp)) (by omega) HWF.out
      have he : m0.M.reach rts = (M.reachL rts, 0) := by rw [HM0.out]; unfold Hp.reach; rw [if_neg HNB.out]
      rw [he] at cr
      clear ch hk hp he
      go_wp2_with fail
      refine cr.mono ?_
      rintro e w3 ⟨vk, rfl, hi, ho⟩
      replace hi : Ints w3 w2.heap.size vk (M.reachL rts) := hi
      have HF3 : Hid (Fam w w3 (SL hb q p r m0 vk (M.reachL rts) m0)) := by
        show Fam _ _ _
        unfold SL
        rw [ML.app HT2.out]
        exact HF.out.addInts ho hi
      obtain ⟨ka, kc, rfl⟩ := hi.len
      have HK192 : Hid ((M.reachL rts).length ≤ 192) := Hp.reachL_len M rts
      clear hi ho cr HF
      generalize M.reachL rts = K0 at *
      go_wp2_with fail
      go_loopw [13, 15] (fun kv iv wr => ∃ (x : Nat) (K : List Int) (ka : Option Addr) (kc : Nat) (m : Mk), x ≤ n3 ∧ x ≤ 80 ∧ iv = .int .i64 x ∧ kv = .slice ka K.length kc ∧ Fam w wr (SL hb q p r m0 (.slice ka K.length kc) K m) ∧ Hid (Snap K m) ∧ Hid (K.length ≤ 192 + x)) (fun _ iv _ => n3 - (intOf iv).toNat)
      case atStart => exact ⟨0, K0, ka, kc, m0, by omega, by omega, rfl, rfl, HF3.out, HSN0, HK192⟩
      case round =>
        clear HF3 HSN0 HK192
        obtain ⟨x, K, ka, kc, m, hx, hx80, rfl, rfl, hF, HS, HKL⟩ := hrel
        have HF := Lib.hid hF
        clear hF
        by_cases hlt0 : x < n3
        · have hlt : x < n3 := by omega
          have hl8 : x < 80 := by omega
          have hlt1 : (x : Int) < n3 := by omega
          have hx0 : (0 : Int) ≤ x := by omega
          have hl81 : (x : Int) < 80 := by omega
          rcases HD.out.2 with h0 | ⟨bb, oo, rfl, hc⟩
          · omega
          have c0 := HF.out.cell (hc x (by omega) 0 (by omega)).1
          have c1 := HF.out.cell (hc x (by omega) 1 (by omega)).1
          have c2 := HF.out.cell (hc x (by omega) 2 (by omega)).1
          have c3 := HF.out.cell (hc x (by omega) 3 (by omega)).1
          rw [Nat.add_zero] at c0
          rw [← Nat.add_assoc] at c1 c2 c3
          have wa := (hc x (by omega) 1 (by omega)).2
          have wc := (hc x (by omega) 3 (by omega)).2
          generalize f3 x 0 = d0 at *
          generalize f3 x 1 = d1 at *
          generalize f3 x 2 = d2 at *
          generalize f3 x 3 = d3 at *
          clear hc
          obtain ⟨kn, hkn⟩ : ∃ z, z = K.length := ⟨_, rfl⟩
          have HKN := Lib.hid hkn
          rw [← hkn] at HF ⊢
          clear hkn
          by_cases hd0 : d0 = 0
          · subst hd0
            have HFA : Hid (Fam w (wr.alloc (.cells #[.int .i64 0, .int .i64 d1, .int .i64 d2, .int .i64 d3] 73)) (ML ((FB hb q p r m0 ++ [IntsA (.slice ka kn kc) K]) ++ [RowA wr.heap.size 73 [.int .i64 0, .int .i64 d1, .int .i64 d2, .int .i64 d3]]) 0 2 hb p m)) := by
              show Fam _ _ _
              rw [SL.app]
              exact HF.out.addRow 73 [.int .i64 0, .int .i64 d1, .int .i64 d2, .int .i64 d3]
            have e0 := (HFA.out.row 5 rfl).cell 0 rfl
            have e1 := (HFA.out.row 5 rfl).cell 1 rfl
            have e2 := (HFA.out.row 5 rfl).cell 2 rfl
            have e3 := (HFA.out.row 5 rfl).cell 3 rfl
            obtain ⟨sg, hsg⟩ : ∃ z, z = wr.heap.size := ⟨_, rfl⟩
            rw [← hsg] at HFA e0 e1 e2 e3
            have HP1 : Hid (∀ wx v, Fam w wx (ML ((FB hb q p r m0 ++ [IntsA (.slice ka kn kc) K]) ++ [RowA sg 73 [.int .i64 0, .int .i64 d1, .int .i64 d2, .int .i64 d3]]) 0 2 hb p m) → BArg wx v (bitsL d2 d3 (cut9 d2)) → Calls Tryz.prog 46 #[.pointer (some ⟨p, 0, none⟩), .int .i64 d1, v] wx (fun e w' => e = .returned (.tuple #[.int .i64 (m.newObject d1 (bitsL d2 d3 (cut9 d2))).1, .int .i64 (m.newObject d1 (bitsL d2 d3 (cut9 d2))).2.1]) ∧ Fam w w' (ML ((FB hb q p r m0 ++ [IntsA (.slice ka kn kc) K]) ++ [RowA sg 73 [.int .i64 0, .int .i64 d1, .int .i64 d2, .int .i64 d3]]) 0 2 hb p (m.newObject d1 (bitsL d2 d3 (cut9 d2))).2.2))) := fun wx v hx hb => mnewObject_rep wx SL.t2r hx HS.out.ok d1 v _ hb (by rw [bitsL_len]; have := cut9_le d2; omega)
            have HSN : Hid (Snap (if (m.newObject d1 (bitsL d2 d3 (cut9 d2))).2.1 = 0 then K ++ [(m.newObject d1 (bitsL d2 d3 (cut9 d2))).1] else K) (m.newObject d1 (bitsL d2 d3 (cut9 d2))).2.2) := HS.out.made (m.M.newObject_new d1 _)
            generalize m.newObject d1 (bitsL d2 d3 (cut9 d2)) = rr at *
            obtain ⟨r1, r2, m'⟩ := rr
            go_wp2_with fail
            rw [← hsg]
            generalize wr.alloc (.cells #[.int .i64 0, .int .i64 d1, .int .i64 d2, .int .i64 d3] 73) = w1 at *
            clear hsg c0 c1 c2 c3 HS wa wc
            have HFD := Lib.hid HFA.out.drew
            go_region_held3 (fun w' => w'.cell? ⟨sg, 0, none⟩ = some (.int .i64 0) ∧ w'.cell? ⟨sg, 1, none⟩ = some (.int .i64 d1) ∧ w'.cell? ⟨sg, 2, none⟩ = some (.int .i64 d2) ∧ w'.cell? ⟨sg, 3, none⟩ = some (.int .i64 d3))
              (first | (exact ⟨e0, e1, e2, e3⟩) | (exact ⟨(f4.row 5 rfl).cell 0 rfl, (f4.row 5 rfl).cell 1 rfl, (f4.row 5 rfl).cell 2 rfl, (f4.row 5 rfl).cell 3 rfl⟩) | (exact ⟨(f3.row 5 rfl).cell 0 rfl, (f3.row 5 rfl).cell 1 rfl, (f3.row 5 rfl).cell 2 rfl, (f3.row 5 rfl).cell 3 rfl⟩))
              (first
                | (go_at_call 47; refine (mrefs_any _ 0 d1 d2 d3).mono ?_; rintro e w3 ⟨v1, rfl, hb3, ho3⟩; have f3 := HFD.out.only0 ho3)
                | (go_at_call 46; refine (HP1.out w3 v1 f3 hb3.barg).mono ?_; rintro e w4 ⟨rfl, f4⟩))
            have HF4 := Lib.hid f4
            clear f3 f4 hb3 ho3 HP1 HFD e0 e1 e2 e3
            have HF5 : Hid (Fam w w4 (SL hb q p r m0 (.slice ka kn kc) K m')) := Fam.pop (l := SL hb q p r m0 (.slice ka kn kc) K m') (by rw [← SL.app]; exact HF4.out)
            clear HF4 HF HFA
            by_cases hr2 : r2 = 0
            · subst hr2
              have hsn := HSN.out
              rw [if_pos rfl] at hsn
              have HSN2 := Lib.hid hsn
              have hi := SL.ints HF5.out
              have HI := Lib.hid hi
              clear hsn HSN hi
              go_wp2_with (at_builtin; refine append_int1 rfl _ _ rfl 0 _ _ rfl (HI.out.alloc (.cells #[.int .i64 r1] 3)) w4.heap.size r1 rfl ?c1 ?c2 ?c3 ?c4)
              case c1 => exact (Row.new w4 _ [_]).cell 0 rfl
              case c2 => have := HKL.out; omega
              case c3 => simp
              case c4 =>
                intro v' w6 hi2 ho2 hb2
                have hown : ∀ g, v'.ownBlock = some g → (Value.slice ka kn kc).ownBlock = some g ∨ w4.heap.size ≤ g := fun g hg => by
                  rcases hb2 with h7 | h7
                  · exact .inl (h7.symm.trans hg)
                  · rw [h7] at hg
                    simp at hg
                    exact .inr (by omega)
                have HFN : Hid (Fam w w6 (SL hb q p r m0 v' (K ++ [r1]) m')) := by
                  have h7 := SL.grow (w' := w6) (v' := v') (K' := K ++ [r1]) (HF5.out.alloc (.cells #[.int .i64 r1] 3)) hi2 ho2 (fun g hg => by
                    rcases hb2 with h8 | h8
                    · exact .inl (h8.symm.trans hg)
                    · rw [h8] at hg
                      simp at hg
                      exact .inr (by simp; omega))
                  exact h7
                obtain ⟨va, vc, rfl⟩ := hi2.len
                have HKL2 : Hid ((K ++ [r1]).length ≤ 192 + (x + 1)) := by have := HKL.out; show _ ≤ _; simp; omega
                clear hi2 ho2 hb2 hown HF5 HI
                go_wp2_with fail
                exact ⟨⟨x + 1, K ++ [r1], va, vc, m', by omega, by omega, by go_num, rfl, HFN.out, HSN2, HKL2⟩, by simp [intOf]; omega⟩
            · have hrb : (r2 == 0) = false := by simpa using hr2
              have hsn := HSN.out
              rw [if_neg hr2] at hsn
              have HSN2 := Lib.hid hsn
              have HKL2 : Hid (K.length ≤ 192 + (x + 1)) := by have := HKL.out; show _ ≤ _; omega
              clear hsn hr2 HSN
              go_wp2_with fail
              exact ⟨⟨x + 1, K, ka, kc, m', by omega, by omega, by go_num, by rw [HKN.out], by rw [← HKN.out]; exact HF5.out, HSN2, HKL2⟩, by simp [intOf]; omega⟩
          · by_cases hd1 : d0 = 1
            · subst hd1
              have HFA : Hid (Fam w (wr.alloc (.cells #[.int .i64 1, .int .i64 d1, .int .i64 d2, .int .i64 d3] 73)) (ML ((FB hb q p r m0 ++ [IntsA (.slice ka kn kc) K]) ++ [RowA wr.heap.size 73 [.int .i64 1, .int .i64 d1, .int .i64 d2, .int .i64 d3]]) 0 2 hb p m)) := by
                show Fam _ _ _
                rw [SL.app]
                exact HF.out.addRow 73 [.int .i64 1, .int .i64 d1, .int .i64 d2, .int .i64 d3]
              have e0 := (HFA.out.row 5 rfl).cell 0 rfl
              have e1 := (HFA.out.row 5 rfl).cell 1 rfl
              have e2 := (HFA.out.row 5 rfl).cell 2 rfl
              have e3 := (HFA.out.row 5 rfl).cell 3 rfl
              have c4 := mnewArray_rep _ SL.t2r HFA.out HS.out.ok d1 d3 d2
              have HSN : Hid (Snap (if (m.newArray d1 d3 d2).2.1 = 0 then K ++ [(m.newArray d1 d3 d2).1] else K) (m.newArray d1 d3 d2).2.2) := HS.out.made (m.M.newArray_new d1 d3 d2)
              generalize m.newArray d1 d3 d2 = rr at *
              obtain ⟨r1, r2, m'⟩ := rr
              clear HS wa wc
              go_wp2_with fail
              refine c4.mono ?_
              rintro e w4 ⟨rfl, f4⟩
              have HF4 := Lib.hid f4
              clear c4 f4 e0 e1 e2 e3 c0 c1 c2 c3
              have HF5 : Hid (Fam w w4 (SL hb q p r m0 (.slice ka kn kc) K m')) := Fam.pop (l := SL hb q p r m0 (.slice ka kn kc) K m') (by rw [← SL.app]; exact HF4.out)
              clear HF4 HF HFA
              by_cases hr2 : r2 = 0
              · subst hr2
                have hsn := HSN.out
                rw [if_pos rfl] at hsn
                have HSN2 := Lib.hid hsn
                have hi := SL.ints HF5.out
                have HI := Lib.hid hi
                clear hsn HSN hi
                go_wp2_with (at_builtin; refine append_int1 rfl _ _ rfl 0 _ _ rfl (HI.out.alloc (.cells #[.int .i64 r1] 3)) w4.heap.size r1 rfl ?c1 ?c2 ?c3 ?c4)
                case c1 => exact (Row.new w4 _ [_]).cell 0 rfl
                case c2 => have := HKL.out; omega
                case c3 => simp
                case c4 =>
                  intro v' w6 hi2 ho2 hb2
                  have hown : ∀ g, v'.ownBlock = some g → (Value.slice ka kn kc).ownBlock = some g ∨ w4.heap.size ≤ g := fun g hg => by
                    rcases hb2 with h7 | h7
                    · exact .inl (h7.symm.trans hg)
                    · rw [h7] at hg
                      simp at hg
                      exact .inr (by omega)
                  have HFN : Hid (Fam w w6 (SL hb q p r m0 v' (K ++ [r1]) m')) := by
                    have h7 := SL.grow (w' := w6) (v' := v') (K' := K ++ [r1]) (HF5.out.alloc (.cells #[.int .i64 r1] 3)) hi2 ho2 (fun g hg => by
                      rcases hb2 with h8 | h8
                      · exact .inl (h8.symm.trans hg)
                      · rw [h8] at hg
                        simp at hg
                        exact .inr (by simp; omega))
                    exact h7
                  obtain ⟨va, vc, rfl⟩ := hi2.len
                  have HKL2 : Hid ((K ++ [r1]).length ≤ 192 + (x + 1)) := by have := HKL.out; show _ ≤ _; simp; omega
                  clear hi2 ho2 hb2 hown HF5 HI
                  go_wp2_with fail
                  exact ⟨⟨x + 1, K ++ [r1], va, vc, m', by omega, by omega, by go_num, rfl, HFN.out, HSN2, HKL2⟩, by simp [intOf]; omega⟩
              · have hrb : (r2 == 0) = false := by simpa using hr2
                have hsn := HSN.out
                rw [if_neg hr2] at hsn
                have HSN2 := Lib.hid hsn
                have HKL2 : Hid (K.length ≤ 192 + (x + 1)) := by have := HKL.out; show _ ≤ _; omega
                clear hsn hr2 HSN
                go_wp2_with fail
                exact ⟨⟨x + 1, K, ka, kc, m', by omega, by omega, by go_num, by rw [HKN.out], by rw [← HKN.out]; exact HF5.out, HSN2, HKL2⟩, by simp [intOf]; omega⟩
            · by_cases hd2 : d0 = 2
              · subst hd2
                have HFA : Hid (Fam w (wr.alloc (.cells #[.int .i64 2, .int .i64 d1, .int .i64 d2, .int .i64 d3] 73)) (ML ((FB hb q p r m0 ++ [IntsA (.slice ka kn kc) K]) ++ [RowA wr.heap.size 73 [.int .i64 2, .int .i64 d1, .int .i64 d2, .int .i64 d3]]) 0 2 hb p m)) := by
                  show Fam _ _ _
                  rw [SL.app]
                  exact HF.out.addRow 73 [.int .i64 2, .int .i64 d1, .int .i64 d2, .int .i64 d3]
                have e0 := (HFA.out.row 5 rfl).cell 0 rfl
                have e1 := (HFA.out.row 5 rfl).cell 1 rfl
                have e2 := (HFA.out.row 5 rfl).cell 2 rfl
                have e3 := (HFA.out.row 5 rfl).cell 3 rfl
                obtain ⟨hk5, L5, X5, hp5⟩ := ML.ph SL.t2r HFA.out
                have c5 := isRef_rep _ hp5 hk5 d1 d2 wa
                have hiK : Ints (wr.alloc (.cells #[.int .i64 2, .int .i64 d1, .int .i64 d2, .int .i64 d3] 73)) 0 (.slice ka kn kc) K := HFA.out.ints 4 rfl
                have c6 := mhas_any _ ka kn kc K HKN.out.symm (by have := HKL.out; have := HKN.out; omega) hiK.read d1
                have c7 := mhas_any _ ka kn kc K HKN.out.symm (by have := HKL.out; have := HKN.out; omega) hiK.read d3
                clear hk5 hp5 hiK
                generalize (m.M.isRef d1 d2).2 = ie at *
                cases his : (m.M.isRef d1 d2).1 with
                | false =>
                  rw [his] at c5
                  have c9 := mstore_rep _ SL.t2r HFA.out HS.out.ok d1 d2 d3 wa wc
                  have HSN : Hid (Snap K (m.store d1 d2 d3).2) := HS.out.store d1 d2 d3 (fun h => by rw [his] at h; cases h)
                  have HKL2 : Hid (K.length ≤ 192 + (x + 1)) := by have := HKL.out; show _ ≤ _; omega
                  generalize m.store d1 d2 d3 = rr at *
                  obtain ⟨r1, m'⟩ := rr
                  clear HS wa wc
                  go_wp2_with fail
                  refine c5.mono ?_
                  rintro e _ ⟨rfl, rfl⟩
                  go_wp2_with fail
                  refine c9.mono ?_
                  rintro e w4 ⟨rfl, f4⟩
                  have HFE : Hid (Fam w w4 (SL hb q p r m0 (.slice ka kn kc) K m')) := Fam.pop (l := SL hb q p r m0 (.slice ka kn kc) K m') (by rw [← SL.app]; exact f4)
                  clear c9 f4
                  go_wp2_with fail
                  exact ⟨⟨x + 1, K, ka, kc, m', by omega, by omega, by go_num, by rw [HKN.out], by rw [← HKN.out]; exact HFE.out, HSN, HKL2⟩, by simp [intOf]; omega⟩
                | true =>
                  rw [his] at c5
                  by_cases hm1 : d1 ∈ K
                  · rw [decide_eq_true hm1] at c6
                    by_cases hz : d3 = 0
                    · subst hz
                      have c9 := mstore_rep _ SL.t2r HFA.out HS.out.ok d1 d2 0 wa wc
                      have HSN : Hid (Snap K (m.store d1 d2 0).2) := HS.out.store d1 d2 0 (fun _ => ⟨hm1, .inl rfl⟩)
                      have HKL2 : Hid (K.length ≤ 192 + (x + 1)) := by have := HKL.out; show _ ≤ _; omega
                      generalize m.store d1 d2 0 = rr at *
                      obtain ⟨r1, m'⟩ := rr
                      clear HS wa wc
                      go_wp2_with fail
                      refine c5.mono ?_
                      rintro e _ ⟨rfl, rfl⟩
                      go_wp2_with fail
                      refine c6.mono ?_
                      rintro e _ ⟨rfl, rfl⟩
                      go_wp2_with fail
                      refine c9.mono ?_
                      rintro e w4 ⟨rfl, f4⟩
                      have HFE : Hid (Fam w w4 (SL hb q p r m0 (.slice ka kn kc) K m')) := Fam.pop (l := SL hb q p r m0 (.slice ka kn kc) K m') (by rw [← SL.app]; exact f4)
                      clear c9 f4
                      go_wp2_with fail
                      exact ⟨⟨x + 1, K, ka, kc, m', by omega, by omega, by go_num, by rw [HKN.out], by rw [← HKN.out]; exact HFE.out, HSN, HKL2⟩, by simp [intOf]; omega⟩
                    · have hzb : (d3 == 0) = false := by simpa using hz
                      by_cases hm3 : d3 ∈ K
                      · rw [decide_eq_true hm3] at c7
                        have c9 := mstore_rep _ SL.t2r HFA.out HS.out.ok d1 d2 d3 wa wc
                        have HSN : Hid (Snap K (m.store d1 d2 d3).2) := HS.out.store d1 d2 d3 (fun _ => ⟨hm1, .inr hm3⟩)
                        have HKL2 : Hid (K.length ≤ 192 + (x + 1)) := by have := HKL.out; show _ ≤ _; omega
                        generalize m.store d1 d2 d3 = rr at *
                        obtain ⟨r1, m'⟩ := rr
                        clear HS wa wc
                        go_wp2_with fail
                        refine c5.mono ?_
                        rintro e _ ⟨rfl, rfl⟩
                        go_wp2_with fail
                        refine c6.mono ?_
                        rintro e _ ⟨rfl, rfl⟩
                        go_wp2_with fail
                        refine c7.mono ?_
                        rintro e _ ⟨rfl, rfl⟩
                        go_wp2_with fail
                        refine c9.mono ?_
                        rintro e w4 ⟨rfl, f4⟩
                        have HFE : Hid (Fam w w4 (SL hb q p r m0 (.slice ka kn kc) K m')) := Fam.pop (l := SL hb q p r m0 (.slice ka kn kc) K m') (by rw [← SL.app]; exact f4)
                        clear c9 f4
                        go_wp2_with fail
                        exact ⟨⟨x + 1, K, ka, kc, m', by omega, by omega, by go_num, by rw [HKN.out], by rw [← HKN.out]; exact HFE.out, HSN, HKL2⟩, by simp [intOf]; omega⟩
                      · rw [decide_eq_false hm3] at c7
                        have HFE : Hid (Fam w (wr.alloc (.cells #[.int .i64 2, .int .i64 d1, .int .i64 d2, .int .i64 d3] 73)) (SL hb q p r m0 (.slice ka kn kc) K m)) := Fam.pop (l := SL hb q p r m0 (.slice ka kn kc) K m) (by rw [← SL.app]; exact HFA.out)
                        have HKL2 : Hid (K.length ≤ 192 + (x + 1)) := by have := HKL.out; show _ ≤ _; omega
                        clear wa wc
                        go_wp2_with fail
                        refine c5.mono ?_
                        rintro e _ ⟨rfl, rfl⟩
                        go_wp2_with fail
                        refine c6.mono ?_
                        rintro e _ ⟨rfl, rfl⟩
                        go_wp2_with fail
                        refine c7.mono ?_
                        rintro e _ ⟨rfl, rfl⟩
                        go_wp2_with fail
                        exact ⟨⟨x + 1, K, ka, kc, m, by omega, by omega, by go_num, by rw [HKN.out], by rw [← HKN.out]; exact HFE.out, HS, HKL2⟩, by simp [intOf]; omega⟩
                  · rw [decide_eq_false hm1] at c6
                    have HFE : Hid (Fam w (wr.alloc (.cells #[.int .i64 2, .int .i64 d1, .int .i64 d2, .int .i64 d3] 73)) (SL hb q p r m0 (.slice ka kn kc) K m)) := Fam.pop (l := SL hb q p r m0 (.slice ka kn kc) K m) (by rw [← SL.app]; exact HFA.out)
                    have HKL2 : Hid (K.length ≤ 192 + (x + 1)) := by have := HKL.out; show _ ≤ _; omega
                    clear wa wc
                    go_wp2_with fail
                    refine c5.mono ?_
                    rintro e _ ⟨rfl, rfl⟩
                    go_wp2_with fail
                    refine c6.mono ?_
                    rintro e _ ⟨rfl, rfl⟩
                    go_wp2_with fail
                    exact ⟨⟨x + 1, K, ka, kc, m, by omega, by omega, by go_num, by rw [HKN.out], by rw [← HKN.out]; exact HFE.out, HS, HKL2⟩, by simp [intOf]; omega⟩
              · by_cases hd3 : d0 = 3
                · subst hd3
                  have HFA : Hid (Fam w (wr.alloc (.cells #[.int .i64 3, .int .i64 d1, .int .i64 d2, .int .i64 d3] 73)) (ML ((FB hb q p r m0 ++ [IntsA (.slice ka kn kc) K]) ++ [RowA wr.heap.size 73 [.int .i64 3, .int .i64 d1, .int .i64 d2, .int .i64 d3]]) 0 2 hb p m)) := by
                    show Fam _ _ _
                    rw [SL.app]
                    exact HF.out.addRow 73 [.int .i64 3, .int .i64 d1, .int .i64 d2, .int .i64 d3]
                  have e0 := (HFA.out.row 5 rfl).cell 0 rfl
                  have e1 := (HFA.out.row 5 rfl).cell 1 rfl
                  have e2 := (HFA.out.row 5 rfl).cell 2 rfl
                  have e3 := (HFA.out.row 5 rfl).cell 3 rfl
                  have c9 := mstep_rep _ SL.t2r HFA.out HS.out.ok
                  have HSN : Hid (Snap K m.step.2.2) := HS.out.step
                  have HKL2 : Hid (K.length ≤ 192 + (x + 1)) := by have := HKL.out; show _ ≤ _; omega
                  generalize m.step = rr at *
                  obtain ⟨r1, r2, m'⟩ := rr
                  clear HS wa wc
                  go_wp2_with fail
                  refine c9.mono ?_
                  rintro e w4 ⟨rfl, f4⟩
                  have HFE : Hid (Fam w w4 (SL hb q p r m0 (.slice ka kn kc) K m')) := Fam.pop (l := SL hb q p r m0 (.slice ka kn kc) K m') (by rw [← SL.app]; exact f4)
                  clear c9 f4
                  go_wp2_with fail
                  exact ⟨⟨x + 1, K, ka, kc, m', by omega, by omega, by go_num, by rw [HKN.out], by rw [← HKN.out]; exact HFE.out, HSN, HKL2⟩, by simp [intOf]; omega⟩
                · have k0 : (d0 == 0) = false := by simpa using hd0
                  have k1 : (d0 == 1) = false := by simpa using hd1
                  have k2 : (d0 == 2) = false := by simpa using hd2
                  have k3 : (d0 == 3) = false := by simpa using hd3
                  have HFA : Hid (Fam w (wr.alloc (.cells #[.int .i64 d0, .int .i64 d1, .int .i64 d2, .int .i64 d3] 73)) (ML ((FB hb q p r m0 ++ [IntsA (.slice ka kn kc) K]) ++ [RowA wr.heap.size 73 [.int .i64 d0, .int .i64 d1, .int .i64 d2, .int .i64 d3]]) 0 2 hb p m)) := by
                    show Fam _ _ _
                    rw [SL.app]
                    exact HF.out.addRow 73 [.int .i64 d0, .int .i64 d1, .int .i64 d2, .int .i64 d3]
                  have e0 := (HFA.out.row 5 rfl).cell 0 rfl
                  have e1 := (HFA.out.row 5 rfl).cell 1 rfl
                  have e2 := (HFA.out.row 5 rfl).cell 2 rfl
                  have e3 := (HFA.out.row 5 rfl).cell 3 rfl
                  have HFE : Hid (Fam w (wr.alloc (.cells #[.int .i64 d0, .int .i64 d1, .int .i64 d2, .int .i64 d3] 73)) (SL hb q p r m0 (.slice ka kn kc) K m)) := Fam.pop (l := SL hb q p r m0 (.slice ka kn kc) K m) (by rw [← SL.app]; exact HFA.out)
                  have HKL2 : Hid (K.length ≤ 192 + (x + 1)) := by have := HKL.out; show _ ≤ _; omega
                  clear wa wc
                  go_wp2_with fail
                  exact ⟨⟨x + 1, K, ka, kc, m, by omega, by omega, by go_num, by rw [HKN.out], by rw [← HKN.out]; exact HFE.out, HS, HKL2⟩, by simp [intOf]; omega⟩
        · have HSN := Lib.hid HS.out.run
          have HRL := Lib.hid (Mk.runs_spec HS.out.ok).1
          have HEND := Lib.hid (HSN.out.end HRL.out)
          have cr := mrun_rep wr SL.t2 HF.out HS.out.ok
          obtain ⟨kn, hkn⟩ : ∃ z, z = K.length := ⟨_, rfl⟩
          have HKN := Lib.hid hkn
          rw [← hkn] at HF cr ⊢
          clear hkn
          have hkn3 : kn ≤ 300 := by have := HKL.out; have := HKN.out; omega
          replace HKL : Hid (K.length ≤ 300) := by have := HKL.out; show _ ≤ _; omega
          have hrn1 := Mk.runs_le HS.out.ok
          generalize m.run = m' at *
          generalize m.runs = rn0 at *
          clear HS
          have h1 : ¬ (x : Int) < n3 := by omega
          go_wp2_with fail
          refine cr.mono ?_
          rintro e w4 ⟨rfl, f4⟩
          have HF4 := Lib.hid f4
          clear cr f4 HF
          go_wp2_with fail
          go_loopw [23] (fun iv wr => ∃ j : Nat, j ≤ kn ∧ iv = .int .i64 j ∧ Fam w wr (SL hb q p r m0 (.slice ka kn kc) K m')) (fun iv _ => kn - (intOf iv).toNat)
          case atStart => exact ⟨0, by omega, rfl, HF4.out⟩
          case round =>
            clear HF4
            obtain ⟨j, hj, rfl, hf⟩ := hrel
            have HF := Lib.hid hf
            clear hf
            by_cases hjl : j < kn
            · have hjl1 : (j : Int) < kn := by omega
              have hj0 : (0 : Int) ≤ j := by omega
              have hjk : j < K.length := by rw [← HKN.out]; exact hjl
              obtain ⟨g, rfl, hc⟩ := icell (SL.ints HF.out) hjk
              have hmem : gI K j ∈ K := mem_gI.2 ⟨j, hjk, rfl⟩
              have hus := HSN.out.us _ hmem
              have cc := mcolor_rep wr SL.t2 HF.out (gI K j) (HSN.out.ok.hf.ok.wfH hus)
              have hcol : m'.color (gI K j) = (2, 0) := by unfold Mk.color; rw [if_pos hus, HEND.out.1 _ hmem]
              rw [hcol] at cc
              clear hmem hus hcol hjk
              generalize gI K j = z at *
              go_wp2_with fail
              refine cc.mono ?_
              rintro e _ ⟨rfl, nd, rfl⟩
              have HFE := Lib.hid (HF.out.drewN nd)
              clear cc hc
              go_wp2_with fail
              exact ⟨⟨j + 1, by omega, by go_num, HFE.out⟩, by simp [intOf]; omega⟩
            · obtain rfl : j = kn := by omega
              have hjl1 : ¬ (j : Int) < (j : Int) := by omega
              obtain ⟨hk, L, X, hp⟩ := ML.ph SL.t2 HF.out
              have c9 := hreach_rep wr hp hk ka j kc K HKN.out.symm (SL.ints HF.out).read (by have := HKL.out; have := HKN.out; omega) (fun y hy => HSN.out.ok.hf.ok.wfH (HSN.out.us y hy))
              have he : m'.M.reach K = (m'.M.reachL K, 0) := by unfold Hp.reach; rw [if_neg HEND.out.2.1]
              rw [he] at c9
              clear hk hp he
              go_wp2_with fail
              refine c9.mono ?_
              rintro e w5 ⟨vr, rfl, hi, ho⟩
              replace hi : Ints w5 wr.heap.size vr (m'.M.reachL K) := hi
              have HF5 : Hid (Fam w w5 (ML ((FB hb q p r m0 ++ [IntsA (.slice ka j kc) K]) ++ [IntsA vr (m'.M.reachL K)]) 0 2 hb p m')) := by
                show Fam _ _ _
                rw [SL.app]
                exact HF.out.addInts ho hi
              obtain ⟨ra, rc, rfl⟩ := hi.len
              have hrl : (m'.M.reachL K).length ≤ 192 := Hp.reachL_len _ _
              obtain ⟨rn, hrn⟩ : ∃ z, z = (m'.M.reachL K).length := ⟨_, rfl⟩
              have HRN := Lib.hid hrn
              rw [← hrn] at HF5 hrl ⊢
              have cd := mdone_rep w5 SL.t2r HF5.out
              rw [decide_eq_true HRL.out] at cd
              clear c9 hi ho HF hrn
              go_wp2_with fail
              refine cd.mono ?_
              rintro e _ ⟨rfl, rfl⟩
              clear cd
              go_wp2_with fail
              go_loopw [28] (fun iv wr => ∃ y : Nat, y ≤ rn ∧ iv = .int .i64 y ∧ Fam w wr (ML ((FB hb q p r m0 ++ [IntsA (.slice ka j kc) K]) ++ [IntsA (.slice ra rn rc) (m'.M.reachL K)]) 0 2 hb p m')) (fun iv _ => rn - (intOf iv).toNat)
              case atStart => exact ⟨0, by omega, rfl, HF5.out⟩
              case round =>
                clear HF5
                obtain ⟨y, hy, rfl, hf⟩ := hrel
                have HF := Lib.hid hf
                clear hf
                by_cases hyl : y < rn
                · have hyl1 : (y : Int) < rn := by omega
                  have hy0 : (0 : Int) ≤ y := by omega
                  have hyk : y < (m'.M.reachL K).length := by rw [← HRN.out]; exact hyl
                  obtain ⟨g, rfl, hc⟩ := icell (HF.out.ints 5 rfl) hyk
                  have hmem : gI (m'.M.reachL K) y ∈ m'.M.reachL K := mem_gI.2 ⟨y, hyk, rfl⟩
                  have hrch := (HSN.out.ok.hf.ok.mem_reach HEND.out.2.1).1 hmem
                  have hus := (hrch.some HSN.out.ok.hf.ok HEND.out.2.1).1
                  have cc := mcolor_rep wr SL.t2r HF.out (gI (m'.M.reachL K) y) (HSN.out.ok.hf.ok.wfH hus)
                  have hcol : m'.color (gI (m'.M.reachL K) y) = (2, 0) := by unfold Mk.color; rw [if_pos hus, HEND.out.2.2 _ hrch]
                  rw [hcol] at cc
                  clear hmem hus hcol hyk hrch
                  generalize gI (m'.M.reachL K) y = z at *
                  go_wp2_with fail
                  refine cc.mono ?_
                  rintro e _ ⟨rfl, nd, rfl⟩
                  have HFE := Lib.hid (HF.out.drewN nd)
                  clear cc hc
                  go_wp2_with fail
                  exact ⟨⟨y + 1, by omega, by go_num, HFE.out⟩, by simp [intOf]; omega⟩
                · obtain rfl : y = rn := by omega
                  have hyl1 : ¬ (y : Int) < (y : Int) := by omega
                  have HO := Lib.hid HF.out.only
                  have cs := msane_any wr
                  clear HF
                  go_wp2_with fail
                  refine cs.mono ?_
                  rintro e w7 ⟨rfl, ho⟩
                  have HE : Hid (Below w.heap.size w w7) := bel3 HO.out ho
                  clear ho cs
                  go_wp2_with fail
                  exact hR.out _ _ ⟨rfl, HE.out⟩
theorem walk_snapB (pages : Int) (b : Option Addr) (n cap : Nat) (f : Nat → Nat → Int) (a2 : Option Addr) (n2 cap2 : Nat) (f2 : Nat → Int) (b3 : Option Addr) (n3 cap3 : Nat) (f3 : Nat → Nat → Int) (w : World) (hn3 : 80 < n3) (wp : (Lit.int .i64 pages).wf = true) (hd : Recs 4 w b n f) (h2 : Nums w a2 n2 f2) (h3 : Recs 4 w b3 n3 f3) :
    Calls Tryz.prog 8 #[.int .i64 pages, .slice b n cap, .slice a2 n2 cap2, .slice b3 n3 cap3] w fun e w' => e = .returned (.bool true) ∧ Below w.heap.size w w' := by
  refine calls_abs fun R hR => ?_
  by_cases hbig : 300 < n2
  · have hb1 : (300 : Int) < n2 := by omega
    have c4 := msane_any w
    clear hd h2 h3
    go_enter Tryz.func8, Tryz.ntmps8
    go_wp2_with fail
    refine c4.mono ?_
    rintro e w4 ⟨rfl, ho⟩
    have HE : Hid (Below w.heap.size w w4) := ho.bel
    clear ho c4
    go_wp2_with fail
    exact hR.out _ _ ⟨rfl, HE.out⟩
  · have hb1 : ¬ (300 : Int) < n2 := by omega
    have c := mbegun_any w pages b n cap f hd a2 n2 cap2 f2 h2 (by omega)
    have HD := Lib.hid h3
    have HRD : Hid (Read w (.slice a2 n2 cap2) (listF n2 f2)) := numsRead h2
    have HWF := Lib.hid (numsWf h2)
    have HLN : Hid ((listF n2 f2).length = n2) := by show _ = _; simp [listF]
    generalize listF n2 f2 = rts at *
    clear hd h2 h3
    go_enter Tryz.func8, Tryz.ntmps8
    go_wp2_with fail
    refine c.mono ?_
    rintro e w2 (⟨rfl, ho⟩ | ⟨hb, q, p, r, M, rfl, hM, hbad, hf⟩)
    · have HO := Lib.hid ho
      have c4 := msane_any w2
      clear c ho
      go_wp2_with fail
      refine c4.mono ?_
      rintro e w4 ⟨rfl, ho⟩
      have HE : Hid (Below w.heap.size w w4) := bel3 HO.out ho
      clear ho c4
      go_wp2_with fail
      exact hR.out _ _ ⟨rfl, HE.out⟩
    · have hok : ((Mk.start M).shades rts).Ok := Mk.Ok.shades _ _ (Mk.Ok.start hM)
      have HSN0 := Lib.hid (Snap.start hM hbad)
      have HM0 : Hid (((Mk.start M).shades rts).M = M) := Mk.shades_M _ _
      have HNB := Lib.hid hbad
      generalize (Mk.start M).shades rts = m0 at *
      have HOK := Lib.hid hok
      have HF : Hid (Fam w w2 (ML (FB hb q p r m0) 0 2 hb p m0)) := hf
      have HT2 : Hid (Two2 (FB hb q p r m0) 0 2) := ⟨by show 0 < 4; decide, by show 2 < 4; decide, by decide⟩
      have ch := mheap_rep w2 HT2.out HF.out
      clear c hf hok hbad hM
      go_wp2_with fail
      refine ch.mono ?_
      rintro e _ ⟨rfl, rfl⟩
      obtain ⟨hk, L, X, hp⟩ := ML.ph HT2.out HF.out
      have cr := hreach_rep w2 hp hk a2 n2 cap2 rts HLN.out (HRD.out.only HF.out.only (by simp)) (by omega) HWF.out
      have he : m0.M.reach rts = (M.reachL rts, 0) := by rw [HM0.out]; unfold Hp.reach; rw [if_neg HNB.out]
      rw [he] at cr
      clear ch hk hp he
      go_wp2_with fail
      refine cr.mono ?_
      rintro e w3 ⟨vk, rfl, hi, ho⟩
      replace hi : Ints w3 w2.heap.size vk (M.reachL rts) := hi
      have HF3 : Hid (Fam w w3 (SL hb q p r m0 vk (M.reachL rts) m0)) := by
        show Fam _ _ _
        unfold SL
        rw [ML.app HT2.out]
        exact HF.out.addInts ho hi
      obtain ⟨ka, kc, rfl⟩ := hi.len
      have HK192 : Hid ((M.reachL rts).length ≤ 192) := Hp.reachL_len M rts
      clear hi ho cr HF
      generalize M.reachL rts = K0 at *
      go_wp2_with fail
      go_loopw [13, 15] (fun kv iv wr => ∃ (x : Nat) (K : List Int) (ka : Option Addr) (kc : Nat) (m : Mk), x ≤ n3 ∧ x ≤ 80 ∧ iv = .int .i64 x ∧ kv = .slice ka K.length kc ∧ Fam w wr (SL hb q p r m0 (.slice ka K.length kc) K m) ∧ Hid (Snap K m) ∧ Hid (K.length ≤ 192 + x)) (fun _ iv _ => n3 - (intOf iv).toNat)
      case atStart => exact ⟨0, K0, ka, kc, m0, by omega, by omega, rfl, rfl, HF3.out, HSN0, HK192⟩
      case round =>
        clear HF3 HSN0 HK192
        obtain ⟨x, K, ka, kc, m, hx, hx80, rfl, rfl, hF, HS, HKL⟩ := hrel
        have HF := Lib.hid hF
        clear hF
        by_cases hlt0 : x < 80
        · have hlt : x < n3 := by omega
          have hl8 : x < 80 := by omega
          have hlt1 : (x : Int) < n3 := by omega
          have hx0 : (0 : Int) ≤ x := by omega
          have hl81 : (x : Int) < 80 := by omega
          rcases HD.out.2 with h0 | ⟨bb, oo, rfl, hc⟩
          · omega
          have c0 := HF.out.cell (hc x (by omega) 0 (by omega)).1
          have c1 := HF.out.cell (hc x (by omega) 1 (by omega)).1
          have c2 := HF.out.cell (hc x (by omega) 2 (by omega)).1
          have c3 := HF.out.cell (hc x (by omega) 3 (by omega)).1
          rw [Nat.add_zero] at c0
          rw [← Nat.add_assoc] at c1 c2 c3
          have wa := (hc x (by omega) 1 (by omega)).2
          have wc := (hc x (by omega) 3 (by omega)).2
          generalize f3 x 0 = d0 at *
          generalize f3 x 1 = d1 at *
          generalize f3 x 2 = d2 at *
          generalize f3 x 3 = d3 at *
          clear hc
          obtain ⟨kn, hkn⟩ : ∃ z, z = K.length := ⟨_, rfl⟩
          have HKN := Lib.hid hkn
          rw [← hkn] at HF ⊢
          clear hkn
          by_cases hd0 : d0 = 0
          · subst hd0
            have HFA : Hid (Fam w (wr.alloc (.cells #[.int .i64 0, .int .i64 d1, .int .i64 d2, .int .i64 d3] 73)) (ML ((FB hb q p r m0 ++ [IntsA (.slice ka kn kc) K]) ++ [RowA wr.heap.size 73 [.int .i64 0, .int .i64 d1, .int .i64 d2, .int .i64 d3]]) 0 2 hb p m)) := by
              show Fam _ _ _
              rw [SL.app]
              exact HF.out.addRow 73 [.int .i64 0, .int .i64 d1, .int .i64 d2, .int .i64 d3]
            have e0 := (HFA.out.row 5 rfl).cell 0 rfl
            have e1 := (HFA.out.row 5 rfl).cell 1 rfl
            have e2 := (HFA.out.row 5 rfl).cell 2 rfl
            have e3 := (HFA.out.row 5 rfl).cell 3 rfl
            obtain ⟨sg, hsg⟩ : ∃ z, z = wr.heap.size := ⟨_, rfl⟩
            rw [← hsg] at HFA e0 e1 e2 e3
            have HP1 : Hid (∀ wx v, Fam w wx (ML ((FB hb q p r m0 ++ [IntsA (.slice ka kn kc) K]) ++ [RowA sg 73 [.int .i64 0, .int .i64 d1, .int .i64 d2, .int .i64 d3]]) 0 2 hb p m) → BArg wx v (bitsL d2 d3 (cut9 d2)) → Calls Tryz.prog 46 #[.pointer (some ⟨p, 0, none⟩), .int .i64 d1, v] wx (fun e w' => e = .returned (.tuple #[.int .i64 (m.newObject d1 (bitsL d2 d3 (cut9 d2))).1, .int .i64 (m.newObject d1 (bitsL d2 d3 (cut9 d2))).2.1]) ∧ Fam w w' (ML ((FB hb q p r m0 ++ [IntsA (.slice ka kn kc) K]) ++ [RowA sg 73 [.int .i64 0, .int .i64 d1, .int .i64 d2, .int .i64 d3]]) 0 2 hb p (m.newObject d1 (bitsL d2 d3 (cut9 d2))).2.2))) := fun wx v hx hb => mnewObject_rep wx SL.t2r hx HS.out.ok d1 v _ hb (by rw [bitsL_len]; have := cut9_le d2; omega)
            have HSN : Hid (Snap (if (m.newObject d1 (bitsL d2 d3 (cut9 d2))).2.1 = 0 then K ++ [(m.newObject d1 (bitsL d2 d3 (cut9 d2))).1] else K) (m.newObject d1 (bitsL d2 d3 (cut9 d2))).2.2) := HS.out.made (m.M.newObject_new d1 _)
            generalize m.newObject d1 (bitsL d2 d3 (cut9 d2)) = rr at *
            obtain ⟨r1, r2, m'⟩ := rr
            go_wp2_with fail
            rw [← hsg]
            generalize wr.alloc (.cells #[.int .i64 0, .int .i64 d1, .int .i64 d2, .int .i64 d3] 73) = w1 at *
            clear hsg c0 c1 c2 c3 HS wa wc
            have HFD := Lib.hid HFA.out.drew
            go_region_held3 (fun w' => w'.cell? ⟨sg, 0, none⟩ = some (.int .i64 0) ∧ w'.cell? ⟨sg, 1, none⟩ = some (.int .i64 d1) ∧ w'.cell? ⟨sg, 2, none⟩ = some (.int .i64 d2) ∧ w'.cell? ⟨sg, 3, none⟩ = some (.int .i64 d3))
              (first | (exact ⟨e0, e1, e2, e3⟩) | (exact ⟨(f4.row 5 rfl).cell 0 rfl, (f4.row 5 rfl).cell 1 rfl, (f4.row 5 rfl).cell 2 rfl, (f4.row 5 rfl).cell 3 rfl⟩) | (exact ⟨(f3.row 5 rfl).cell 0 rfl, (f3.row 5 rfl).cell 1 rfl, (f3.row 5 rfl).cell 2 rfl, (f3.row 5 rfl).cell 3 rfl⟩))
              (first
                | (go_at_call 47; refine (mrefs_any _ 0 d1 d2 d3).mono ?_; rintro e w3 ⟨v1, rfl, hb3, ho3⟩; have f3 := HFD.out.only0 ho3)
                | (go_at_call 46; refine (HP1.out w3 v1 f3 hb3.barg).mono ?_; rintro e w4 ⟨rfl, f4⟩))
            have HF4 := Lib.hid f4
            clear f3 f4 hb3 ho3 HP1 HFD e0 e1 e2 e3
            have HF5 : Hid (Fam w w4 (SL hb q p r m0 (.slice ka kn kc) K m')) := Fam.pop (l := SL hb q p r m0 (.slice ka kn kc) K m') (by rw [← SL.app]; exact HF4.out)
            clear HF4 HF HFA
            by_cases hr2 : r2 = 0
            · subst hr2
              have hsn := HSN.out
              rw [if_pos rfl] at hsn
              have HSN2 := Lib.hid hsn
              have hi := SL.ints HF5.out
              have HI := Lib.hid hi
              clear hsn HSN hi
              go_wp2_with (at_builtin; refine append_int1 rfl _ _ rfl 0 _ _ rfl (HI.out.alloc (.cells #[.int .i64 r1] 3)) w4.heap.size r1 rfl ?c1 ?c2 ?c3 ?c4)
              case c1 => exact (Row.new w4 _ [_]).cell 0 rfl
              case c2 => have := HKL.out; omega
              case c3 => simp
              case c4 =>
                intro v' w6 hi2 ho2 hb2
                have hown : ∀ g, v'.ownBlock = some g → (Value.slice ka kn kc).ownBlock = some g ∨ w4.heap.size ≤ g := fun g hg => by
                  rcases hb2 with h7 | h7
                  · exact .inl (h7.symm.trans hg)
                  · rw [h7] at hg
                    simp at hg
                    exact .inr (by omega)
                have HFN : Hid (Fam w w6 (SL hb q p r m0 v' (K ++ [r1]) m')) := by
                  have h7 := SL.grow (w' := w6) (v' := v') (K' := K ++ [r1]) (HF5.out.alloc (.cells #[.int .i64 r1] 3)) hi2 ho2 (fun g hg => by
                    rcases hb2 with h8 | h8
                    · exact .inl (h8.symm.trans hg)
                    · rw [h8] at hg
                      simp at hg
                      exact .inr (by simp; omega))
                  exact h7
                obtain ⟨va, vc, rfl⟩ := hi2.len
                have HKL2 : Hid ((K ++ [r1]).length ≤ 192 + (x + 1)) := by have := HKL.out; show _ ≤ _; simp; omega
                clear hi2 ho2 hb2 hown HF5 HI
                go_wp2_with fail
                exact ⟨⟨x + 1, K ++ [r1], va, vc, m', by omega, by omega, by go_num, rfl, HFN.out, HSN2, HKL2⟩, by simp [intOf]; omega⟩
            · have hrb : (r2 == 0) = false := by simpa using hr2
              have hsn := HSN.out
              rw [if_neg hr2] at hsn
              have HSN2 := Lib.hid hsn
              have HKL2 : Hid (K.length ≤ 192 + (x + 1)) := by have := HKL.out; show _ ≤ _; omega
              clear hsn hr2 HSN
              go_wp2_with fail
              exact ⟨⟨x + 1, K, ka, kc, m', by omega, by omega, by go_num, by rw [HKN.out], by rw [← HKN.out]; exact HF5.out, HSN2, HKL2⟩, by simp [intOf]; omega⟩
          · by_cases hd1 : d0 = 1
            · subst hd1
              have HFA : Hid (Fam w (wr.alloc (.cells #[.int .i64 1, .int .i64 d1, .int .i64 d2, .int .i64 d3] 73)) (ML ((FB hb q p r m0 ++ [IntsA (.slice ka kn kc) K]) ++ [RowA wr.heap.size 73 [.int .i64 1, .int .i64 d1, .int .i64 d2, .int .i64 d3]]) 0 2 hb p m)) := by
                show Fam _ _ _
                rw [SL.app]
                exact HF.out.addRow 73 [.int .i64 1, .int .i64 d1, .int .i64 d2, .int .i64 d3]
              have e0 := (HFA.out.row 5 rfl).cell 0 rfl
              have e1 := (HFA.out.row 5 rfl).cell 1 rfl
              have e2 := (HFA.out.row 5 rfl).cell 2 rfl
              have e3 := (HFA.out.row 5 rfl).cell 3 rfl
              have c4 := mnewArray_rep _ SL.t2r HFA.out HS.out.ok d1 d3 d2
              have HSN : Hid (Snap (if (m.newArray d1 d3 d2).2.1 = 0 then K ++ [(m.newArray d1 d3 d2).1] else K) (m.newArray d1 d3 d2).2.2) := HS.out.made (m.M.newArray_new d1 d3 d2)
              generalize m.newArray d1 d3 d2 = rr at *
              obtain ⟨r1, r2, m'⟩ := rr
              clear HS wa wc
              go_wp2_with fail
              refine c4.mono ?_
              rintro e w4 ⟨rfl, f4⟩
              have HF4 := Lib.hid f4
              clear c4 f4 e0 e1 e2 e3 c0 c1 c2 c3
              have HF5 : Hid (Fam w w4 (SL hb q p r m0 (.slice ka kn kc) K m')) := Fam.pop (l := SL hb q p r m0 (.slice ka kn kc) K m') (by rw [← SL.app]; exact HF4.out)
              clear HF4 HF HFA
              by_cases hr2 : r2 = 0
              · subst hr2
                have hsn := HSN.out
                rw [if_pos rfl] at hsn
                have HSN2 := Lib.hid hsn
                have hi := SL.ints HF5.out
                have HI := Lib.hid hi
                clear hsn HSN hi
                go_wp2_with (at_builtin; refine append_int1 rfl _ _ rfl 0 _ _ rfl (HI.out.alloc (.cells #[.int .i64 r1] 3)) w4.heap.size r1 rfl ?c1 ?c2 ?c3 ?c4)
                case c1 => exact (Row.new w4 _ [_]).cell 0 rfl
                case c2 => have := HKL.out; omega
                case c3 => simp
                case c4 =>
                  intro v' w6 hi2 ho2 hb2
                  have hown : ∀ g, v'.ownBlock = some g → (Value.slice ka kn kc).ownBlock = some g ∨ w4.heap.size ≤ g := fun g hg => by
                    rcases hb2 with h7 | h7
                    · exact .inl (h7.symm.trans hg)
                    · rw [h7] at hg
                      simp at hg
                      exact .inr (by omega)
                  have HFN : Hid (Fam w w6 (SL hb q p r m0 v' (K ++ [r1]) m')) := by
                    have h7 := SL.grow (w' := w6) (v' := v') (K' := K ++ [r1]) (HF5.out.alloc (.cells #[.int .i64 r1] 3)) hi2 ho2 (fun g hg => by
                      rcases hb2 with h8 | h8
                      · exact .inl (h8.symm.trans hg)
                      · rw [h8] at hg
                        simp at hg
                        exact .inr (by simp; omega))
                    exact h7
                  obtain ⟨va, vc, rfl⟩ := hi2.len
                  have HKL2 : Hid ((K ++ [r1]).length ≤ 192 + (x + 1)) := by have := HKL.out; show _ ≤ _; simp; omega
                  clear hi2 ho2 hb2 hown HF5 HI
                  go_wp2_with fail
                  exact ⟨⟨x + 1, K ++ [r1], va, vc, m', by omega, by omega, by go_num, rfl, HFN.out, HSN2, HKL2⟩, by simp [intOf]; omega⟩
              · have hrb : (r2 == 0) = false := by simpa using hr2
                have hsn := HSN.out
                rw [if_neg hr2] at hsn
                have HSN2 := Lib.hid hsn
                have HKL2 : Hid (K.length ≤ 192 + (x + 1)) := by have := HKL.out; show _ ≤ _; omega
                clear hsn hr2 HSN
                go_wp2_with fail
                exact ⟨⟨x + 1, K, ka, kc, m', by omega, by omega, by go_num, by rw [HKN.out], by rw [← HKN.out]; exact HF5.out, HSN2, HKL2⟩, by simp [intOf]; omega⟩
            · by_cases hd2 : d0 = 2
              · subst hd2
                have HFA : Hid (Fam w (wr.alloc (.cells #[.int .i64 2, .int .i64 d1, .int .i64 d2, .int .i64 d3] 73)) (ML ((FB hb q p r m0 ++ [IntsA (.slice ka kn kc) K]) ++ [RowA wr.heap.size 73 [.int .i64 2, .int .i64 d1, .int .i64 d2, .int .i64 d3]]) 0 2 hb p m)) := by
                  show Fam _ _ _
                  rw [SL.app]
                  exact HF.out.addRow 73 [.int .i64 2, .int .i64 d1, .int .i64 d2, .int .i64 d3]
                have e0 := (HFA.out.row 5 rfl).cell 0 rfl
                have e1 := (HFA.out.row 5 rfl).cell 1 rfl
                have e2 := (HFA.out.row 5 rfl).cell 2 rfl
                have e3 := (HFA.out.row 5 rfl).cell 3 rfl
                obtain ⟨hk5, L5, X5, hp5⟩ := ML.ph SL.t2r HFA.out
                have c5 := isRef_rep _ hp5 hk5 d1 d2 wa
                have hiK : Ints (wr.alloc (.cells #[.int .i64 2, .int .i64 d1, .int .i64 d2, .int .i64 d3] 73)) 0 (.slice ka kn kc) K := HFA.out.ints 4 rfl
                have c6 := mhas_any _ ka kn kc K HKN.out.symm (by have := HKL.out; have := HKN.out; omega) hiK.read d1
                have c7 := mhas_any _ ka kn kc K HKN.out.symm (by have := HKL.out; have := HKN.out; omega) hiK.read d3
                clear hk5 hp5 hiK
                generalize (m.M.isRef d1 d2).2 = ie at *
                cases his : (m.M.isRef d1 d2).1 with
                | false =>
                  rw [his] at c5
                  have c9 := mstore_rep _ SL.t2r HFA.out HS.out.ok d1 d2 d3 wa wc
                  have HSN : Hid (Snap K (m.store d1 d2 d3).2) := HS.out.store d1 d2 d3 (fun h => by rw [his] at h; cases h)
                  have HKL2 : Hid (K.length ≤ 192 + (x + 1)) := by have := HKL.out; show _ ≤ _; omega
                  generalize m.store d1 d2 d3 = rr at *
                  obtain ⟨r1, m'⟩ := rr
                  clear HS wa wc
                  go_wp2_with fail
                  refine c5.mono ?_
                  rintro e _ ⟨rfl, rfl⟩
                  go_wp2_with fail
                  refine c9.mono ?_
                  rintro e w4 ⟨rfl, f4⟩
                  have HFE : Hid (Fam w w4 (SL hb q p r m0 (.slice ka kn kc) K m')) := Fam.pop (l := SL hb q p r m0 (.slice ka kn kc) K m') (by rw [← SL.app]; exact f4)
                  clear c9 f4
                  go_wp2_with fail
                  exact ⟨⟨x + 1, K, ka, kc, m', by omega, by omega, by go_num, by rw [HKN.out], by rw [← HKN.out]; exact HFE.out, HSN, HKL2⟩, by simp [intOf]; omega⟩
                | true =>
                  rw [his] at c5
                  by_cases hm1 : d1 ∈ K
                  · rw [decide_eq_true hm1] at c6
                    by_cases hz : d3 = 0
                    · subst hz
                      have c9 := mstore_rep _ SL.t2r HFA.out HS.out.ok d1 d2 0 wa wc
                      have HSN : Hid (Snap K (m.store d1 d2 0).2) := HS.out.store d1 d2 0 (fun _ => ⟨hm1, .inl rfl⟩)
                      have HKL2 : Hid (K.length ≤ 192 + (x + 1)) := by have := HKL.out; show _ ≤ _; omega
                      generalize m.store d1 d2 0 = rr at *
                      obtain ⟨r1, m'⟩ := rr
                      clear HS wa wc
                      go_wp2_with fail
                      refine c5.mono ?_
                      rintro e _ ⟨rfl, rfl⟩
                      go_wp2_with fail
                      refine c6.mono ?_
                      rintro e _ ⟨rfl, rfl⟩
                      go_wp2_with fail
                      refine c9.mono ?_
                      rintro e w4 ⟨rfl, f4⟩
                      have HFE : Hid (Fam w w4 (SL hb q p r m0 (.slice ka kn kc) K m')) := Fam.pop (l := SL hb q p r m0 (.slice ka kn kc) K m') (by rw [← SL.app]; exact f4)
                      clear c9 f4
                      go_wp2_with fail
                      exact ⟨⟨x + 1, K, ka, kc, m', by omega, by omega, by go_num, by rw [HKN.out], by rw [← HKN.out]; exact HFE.out, HSN, HKL2⟩, by simp [intOf]; omega⟩
                    · have hzb : (d3 == 0) = false := by simpa using hz
                      by_cases hm3 : d3 ∈ K
                      · rw [decide_eq_true hm3] at c7
                        have c9 := mstore_rep _ SL.t2r HFA.out HS.out.ok d1 d2 d3 wa wc
                        have HSN : Hid (Snap K (m.store d1 d2 d3).2) := HS.out.store d1 d2 d3 (fun _ => ⟨hm1, .inr hm3⟩)
                        have HKL2 : Hid (K.length ≤ 192 + (x + 1)) := by have := HKL.out; show _ ≤ _; omega
                        generalize m.store d1 d2 d3 = rr at *
                        obtain ⟨r1, m'⟩ := rr
                        clear HS wa wc
                        go_wp2_with fail
                        refine c5.mono ?_
                        rintro e _ ⟨rfl, rfl⟩
                        go_wp2_with fail
                        refine c6.mono ?_
                        rintro e _ ⟨rfl, rfl⟩
                        go_wp2_with fail
                        refine c7.mono ?_
                        rintro e _ ⟨rfl, rfl⟩
                        go_wp2_with fail
                        refine c9.mono ?_
                        rintro e w4 ⟨rfl, f4⟩
                        have HFE : Hid (Fam w w4 (SL hb q p r m0 (.slice ka kn kc) K m')) := Fam.pop (l := SL hb q p r m0 (.slice ka kn kc) K m') (by rw [← SL.app]; exact f4)
                        clear c9 f4
                        go_wp2_with fail
                        exact ⟨⟨x + 1, K, ka, kc, m', by omega, by omega, by go_num, by rw [HKN.out], by rw [← HKN.out]; exact HFE.out, HSN, HKL2⟩, by simp [intOf]; omega⟩
                      · rw [decide_eq_false hm3] at c7
                        have HFE : Hid (Fam w (wr.alloc (.cells #[.int .i64 2, .int .i64 d1, .int .i64 d2, .int .i64 d3] 73)) (SL hb q p r m0 (.slice ka kn kc) K m)) := Fam.pop (l := SL hb q p r m0 (.slice ka kn kc) K m) (by rw [← SL.app]; exact HFA.out)
                        have HKL2 : Hid (K.length ≤ 192 + (x + 1)) := by have := HKL.out; show _ ≤ _; omega
                        clear wa wc
                        go_wp2_with fail
                        refine c5.mono ?_
                        rintro e _ ⟨rfl, rfl⟩
                        go_wp2_with fail
                        refine c6.mono ?_
                        rintro e _ ⟨rfl, rfl⟩
                        go_wp2_with fail
                        refine c7.mono ?_
                        rintro e _ ⟨rfl, rfl⟩
                        go_wp2_with fail
                        exact ⟨⟨x + 1, K, ka, kc, m, by omega, by omega, by go_num, by rw [HKN.out], by rw [← HKN.out]; exact HFE.out, HS, HKL2⟩, by simp [intOf]; omega⟩
                  · rw [decide_eq_false hm1] at c6
                    have HFE : Hid (Fam w (wr.alloc (.cells #[.int .i64 2, .int .i64 d1, .int .i64 d2, .int .i64 d3] 73)) (SL hb q p r m0 (.slice ka kn kc) K m)) := Fam.pop (l := SL hb q p r m0 (.slice ka kn kc) K m) (by rw [← SL.app]; exact HFA.out)
                    have HKL2 : Hid (K.length ≤ 192 + (x + 1)) := by have := HKL.out; show _ ≤ _; omega
                    clear wa wc
                    go_wp2_with fail
                    refine c5.mono ?_
                    rintro e _ ⟨rfl, rfl⟩
                    go_wp2_with fail
                    refine c6.mono ?_
                    rintro e _ ⟨rfl, rfl⟩
                    go_wp2_with fail
                    exact ⟨⟨x + 1, K, ka, kc, m, by omega, by omega, by go_num, by rw [HKN.out], by rw [← HKN.out]; exact HFE.out, HS, HKL2⟩, by simp [intOf]; omega⟩
              · by_cases hd3 : d0 = 3
                · subst hd3
                  have HFA : Hid (Fam w (wr.alloc (.cells #[.int .i64 3, .int .i64 d1, .int .i64 d2, .int .i64 d3] 73)) (ML ((FB hb q p r m0 ++ [IntsA (.slice ka kn kc) K]) ++ [RowA wr.heap.size 73 [.int .i64 3, .int .i64 d1, .int .i64 d2, .int .i64 d3]]) 0 2 hb p m)) := by
                    show Fam _ _ _
                    rw [SL.app]
                    exact HF.out.addRow 73 [.int .i64 3, .int .i64 d1, .int .i64 d2, .int .i64 d3]
                  have e0 := (HFA.out.row 5 rfl).cell 0 rfl
                  have e1 := (HFA.out.row 5 rfl).cell 1 rfl
                  have e2 := (HFA.out.row 5 rfl).cell 2 rfl
                  have e3 := (HFA.out.row 5 rfl).cell 3 rfl
                  have c9 := mstep_rep _ SL.t2r HFA.out HS.out.ok
                  have HSN : Hid (Snap K m.step.2.2) := HS.out.step
                  have HKL2 : Hid (K.length ≤ 192 + (x + 1)) := by have := HKL.out; show _ ≤ _; omega
                  generalize m.step = rr at *
                  obtain ⟨r1, r2, m'⟩ := rr
                  clear HS wa wc
                  go_wp2_with fail
                  refine c9.mono ?_
                  rintro e w4 ⟨rfl, f4⟩
                  have HFE : Hid (Fam w w4 (SL hb q p r m0 (.slice ka kn kc) K m')) := Fam.pop (l := SL hb q p r m0 (.slice ka kn kc) K m') (by rw [← SL.app]; exact f4)
                  clear c9 f4
                  go_wp2_with fail
                  exact ⟨⟨x + 1, K, ka, kc, m', by omega, by omega, by go_num, by rw [HKN.out], by rw [← HKN.out]; exact HFE.out, HSN, HKL2⟩, by simp [intOf]; omega⟩
                · have k0 : (d0 == 0) = false := by simpa using hd0
                  have k1 : (d0 == 1) = false := by simpa using hd1
                  have k2 : (d0 == 2) = false := by simpa using hd2
                  have k3 : (d0 == 3) = false := by simpa using hd3
                  have HFA : Hid (Fam w (wr.alloc (.cells #[.int .i64 d0, .int .i64 d1, .int .i64 d2, .int .i64 d3] 73)) (ML ((FB hb q p r m0 ++ [IntsA (.slice ka kn kc) K]) ++ [RowA wr.heap.size 73 [.int .i64 d0, .int .i64 d1, .int .i64 d2, .int .i64 d3]]) 0 2 hb p m)) := by
                    show Fam _ _ _
                    rw [SL.app]
                    exact HF.out.addRow 73 [.int .i64 d0, .int .i64 d1, .int .i64 d2, .int .i64 d3]
                  have e0 := (HFA.out.row 5 rfl).cell 0 rfl
                  have e1 := (HFA.out.row 5 rfl).cell 1 rfl
                  have e2 := (HFA.out.row 5 rfl).cell 2 rfl
                  have e3 := (HFA.out.row 5 rfl).cell 3 rfl
                  have HFE : Hid (Fam w (wr.alloc (.cells #[.int .i64 d0, .int .i64 d1, .int .i64 d2, .int .i64 d3] 73)) (SL hb q p r m0 (.slice ka kn kc) K m)) := Fam.pop (l := SL hb q p r m0 (.slice ka kn kc) K m) (by rw [← SL.app]; exact HFA.out)
                  have HKL2 : Hid (K.length ≤ 192 + (x + 1)) := by have := HKL.out; show _ ≤ _; omega
                  clear wa wc
                  go_wp2_with fail
                  exact ⟨⟨x + 1, K, ka, kc, m, by omega, by omega, by go_num, by rw [HKN.out], by rw [← HKN.out]; exact HFE.out, HS, HKL2⟩, by simp [intOf]; omega⟩
        · have HSN := Lib.hid HS.out.run
          have HRL := Lib.hid (Mk.runs_spec HS.out.ok).1
          have HEND := Lib.hid (HSN.out.end HRL.out)
          have cr := mrun_rep wr SL.t2 HF.out HS.out.ok
          obtain ⟨kn, hkn⟩ : ∃ z, z = K.length := ⟨_, rfl⟩
          have HKN := Lib.hid hkn
          rw [← hkn] at HF cr ⊢
          clear hkn
          have hkn3 : kn ≤ 300 := by have := HKL.out; have := HKN.out; omega
          replace HKL : Hid (K.length ≤ 300) := by have := HKL.out; show _ ≤ _; omega
          have hrn1 := Mk.runs_le HS.out.ok
          generalize m.run = m' at *
          generalize m.runs = rn0 at *
          clear HS
          have h1 : (x : Int) < n3 := by omega
          have h2 : ¬ (x : Int) < 80 := by omega
          go_wp2_with fail
          refine cr.mono ?_
          rintro e w4 ⟨rfl, f4⟩
          have HF4 := Lib.hid f4
          clear cr f4 HF
          go_wp2_with fail
          go_loopw [23] (fun iv wr => ∃ j : Nat, j ≤ kn ∧ iv = .int .i64 j ∧ Fam w wr (SL hb q p r m0 (.slice ka kn kc) K m')) (fun iv _ => kn - (intOf iv).toNat)
          case atStart => exact ⟨0, by omega, rfl, HF4.out⟩
          case round =>
            clear HF4
            obtain ⟨j, hj, rfl, hf⟩ := hrel
            have HF := Lib.hid hf
            clear hf
            by_cases hjl : j < kn
            · have hjl1 : (j : Int) < kn := by omega
              have hj0 : (0 : Int) ≤ j := by omega
              have hjk : j < K.length := by rw [← HKN.out]; exact hjl
              obtain ⟨g, rfl, hc⟩ := icell (SL.ints HF.out) hjk
              have hmem : gI K j ∈ K := mem_gI.2 ⟨j, hjk, rfl⟩
              have hus := HSN.out.us _ hmem
              have cc := mcolor_rep wr SL.t2 HF.out (gI K j) (HSN.out.ok.hf.ok.wfH hus)
              have hcol : m'.color (gI K j) = (2, 0) := by unfold Mk.color; rw [if_pos hus, HEND.out.1 _ hmem]
              rw [hcol] at cc
              clear hmem hus hcol hjk
              generalize gI K j = z at *
              go_wp2_with fail
              refine cc.mono ?_
              rintro e _ ⟨rfl, nd, rfl⟩
              have HFE := Lib.hid (HF.out.drewN nd)
              clear cc hc
              go_wp2_with fail
              exact ⟨⟨j + 1, by omega, by go_num, HFE.out⟩, by simp [intOf]; omega⟩
            · obtain rfl : j = kn := by omega
              have hjl1 : ¬ (j : Int) < (j : Int) := by omega
              obtain ⟨hk, L, X, hp⟩ := ML.ph SL.t2 HF.out
              have c9 := hreach_rep wr hp hk ka j kc K HKN.out.symm (SL.ints HF.out).read (by have := HKL.out; have := HKN.out; omega) (fun y hy => HSN.out.ok.hf.ok.wfH (HSN.out.us y hy))
              have he : m'.M.reach K = (m'.M.reachL K, 0) := by unfold Hp.reach; rw [if_neg HEND.out.2.1]
              rw [he] at c9
              clear hk hp he
              go_wp2_with fail
              refine c9.mono ?_
              rintro e w5 ⟨vr, rfl, hi, ho⟩
              replace hi : Ints w5 wr.heap.size vr (m'.M.reachL K) := hi
              have HF5 : Hid (Fam w w5 (ML ((FB hb q p r m0 ++ [IntsA (.slice ka j kc) K]) ++ [IntsA vr (m'.M.reachL K)]) 0 2 hb p m')) := by
                show Fam _ _ _
                rw [SL.app]
                exact HF.out.addInts ho hi
              obtain ⟨ra, rc, rfl⟩ := hi.len
              have hrl : (m'.M.reachL K).length ≤ 192 := Hp.reachL_len _ _
              obtain ⟨rn, hrn⟩ : ∃ z, z = (m'.M.reachL K).length := ⟨_, rfl⟩
              have HRN := Lib.hid hrn
              rw [← hrn] at HF5 hrl ⊢
              have cd := mdone_rep w5 SL.t2r HF5.out
              rw [decide_eq_true HRL.out] at cd
              clear c9 hi ho HF hrn
              go_wp2_with fail
              refine cd.mono ?_
              rintro e _ ⟨rfl, rfl⟩
              clear cd
              go_wp2_with fail
              go_loopw [28] (fun iv wr => ∃ y : Nat, y ≤ rn ∧ iv = .int .i64 y ∧ Fam w wr (ML ((FB hb q p r m0 ++ [IntsA (.slice ka j kc) K]) ++ [IntsA (.slice ra rn rc) (m'.M.reachL K)]) 0 2 hb p m')) (fun iv _ => rn - (intOf iv).toNat)
              case atStart => exact ⟨0, by omega, rfl, HF5.out⟩
              case round =>
                clear HF5
                obtain ⟨y, hy, rfl, hf⟩ := hrel
                have HF := Lib.hid hf
                clear hf
                by_cases hyl : y < rn
                · have hyl1 : (y : Int) < rn := by omega
                  have hy0 : (0 : Int) ≤ y := by omega
                  have hyk : y < (m'.M.reachL K).length := by rw [← HRN.out]; exact hyl
                  obtain ⟨g, rfl, hc⟩ := icell (HF.out.ints 5 rfl) hyk
                  have hmem : gI (m'.M.reachL K) y ∈ m'.M.reachL K := mem_gI.2 ⟨y, hyk, rfl⟩
                  have hrch := (HSN.out.ok.hf.ok.mem_reach HEND.out.2.1).1 hmem
                  have hus := (hrch.some HSN.out.ok.hf.ok HEND.out.2.1).1
                  have cc := mcolor_rep wr SL.t2r HF.out (gI (m'.M.reachL K) y) (HSN.out.ok.hf.ok.wfH hus)
                  have hcol : m'.color (gI (m'.M.reachL K) y) = (2, 0) := by unfold Mk.color; rw [if_pos hus, HEND.out.2.2 _ hrch]
                  rw [hcol] at cc
                  clear hmem hus hcol hyk hrch
                  generalize gI (m'.M.reachL K) y = z at *
                  go_wp2_with fail
                  refine cc.mono ?_
                  rintro e _ ⟨rfl, nd, rfl⟩
                  have HFE := Lib.hid (HF.out.drewN nd)
                  clear cc hc
                  go_wp2_with fail
                  exact ⟨⟨y + 1, by omega, by go_num, HFE.out⟩, by simp [intOf]; omega⟩
                · obtain rfl : y = rn := by omega
                  have hyl1 : ¬ (y : Int) < (y : Int) := by omega
                  have HO := Lib.hid HF.out.only
                  have cs := msane_any wr
                  clear HF
                  go_wp2_with fail
                  refine cs.mono ?_
                  rintro e w7 ⟨rfl, ho⟩
                  have HE : Hid (Below w.heap.size w w7) := bel3 HO.out ho
                  clear ho cs
                  go_wp2_with fail
                  exact hR.out _ _ ⟨rfl, HE.out⟩
theorem walk_MarkSnapshot (pages : Int) (b : Option Addr) (n cap : Nat) (f : Nat → Nat → Int) (a2 : Option Addr) (n2 cap2 : Nat) (f2 : Nat → Int) (b3 : Option Addr) (n3 cap3 : Nat) (f3 : Nat → Nat → Int) (w : World) (wp : (Lit.int .i64 pages).wf = true) (hd : Recs 4 w b n f) (h2 : Nums w a2 n2 f2) (h3 : Recs 4 w b3 n3 f3) :
    Calls Tryz.prog 8 #[.int .i64 pages, .slice b n cap, .slice a2 n2 cap2, .slice b3 n3 cap3] w fun e w' => e = .returned (.bool true) ∧ Below w.heap.size w w' := by
  by_cases h : n3 ≤ 80
  · exact walk_snapA pages b n cap f a2 n2 cap2 f2 b3 n3 cap3 f3 w h wp hd h2 h3
  · exact walk_snapB pages b n cap f a2 n2 cap2 f2 b3 n3 cap3 f3 w (by omega) wp hd h2 h3
end Go.Proofs.YtkjocehdbpekjaaGreat
