/- Lemmas of this claim. -/
import Derived.Test.YtkacgbigeobncaaGreatTaScopeE
namespace Go.Proofs.YtkacgbigeobncaaGreat
open Go.RowKit Go.Maps
set_option maxHeartbeats 1600000
set_option maxRecDepth 100000
set_option linter.unusedVariables false
def DatIs (D : DataW Unit) (f : Int → Option Nat) : Prop := ∀ k, wfI k → Maps.has D (.int .i64 k) = (f k).isSome ∧ ∀ b, f k = some b → ∀ z, D.atKey (.int .i64 k) z = .lit (.int .i64 b)
theorem sameI (j k : Int) (hk : wfI k) : (Lit.int .i64 j).sameKey (.int .i64 k) = decide (j = k) := by
  by_cases e : j = k
  · subst e; rw [WideAt.sameKey_self (isKeyI j hk)]; simp
  · rw [Maps.sameKey_ne (ne_key e)]; simp [e]
theorem DatIs.del {D : DataW Unit} {f : Int → Option Nat} (h : DatIs D f) (k : Int) : DatIs (D.del (.int .i64 k)) (fun j => if j = k then none else f j) := by
  intro j hj
  by_cases e : j = k
  · subst e
    simp only [if_true]
    exact ⟨Maps.has_del_same, fun b hb => by cases hb⟩
  · simp only [e, if_false]
    refine ⟨by rw [Maps.has_del_other (ne_key e)]; exact (h j hj).1, fun b hb z => ?_⟩
    rw [Maps.atKey_del_other (ne_key e)]
    exact (h j hj).2 b hb z
theorem DatIs.congr {D : DataW Unit} {f g : Int → Option Nat} (h : DatIs D f) (he : ∀ k, wfI k → f k = g k) : DatIs D g := fun k hk => by
  have := h k hk
  rw [he k hk] at this
  exact this
theorem DatIs.at {D : DataW Unit} {f : Int → Option Nat} (h : DatIs D f) {k : Int} (hk : wfI k) {o : Option Nat} (hat : ∀ z, D.atKey (.int .i64 k) z = datP o) : ∃ b, o = some b ∧ f k = some b := by
  have h1 := Maps.has_true_of_atKey hat
  obtain ⟨h2, h3⟩ := h k hk
  rw [h1] at h2
  cases hf : f k with
  | none => rw [hf] at h2; cases h2
  | some b =>
    have := h3 b hf .nil
    rw [hat] at this
    exact ⟨b, datP_inj (a := o) (b := some b) this, rfl⟩
section
variable {w : World} {ops : Array Oper} {rest : List Oper} {o : Oper} {a : Act} {Q : Exit → Act → World → Prop}
theorem wpList_next_things (hg : o.guard = none) (it : Operand) (hop : o.op = Op.next it false) (b r n : Nat) (D : DataW Unit) (left : Lit → Bool) (cnt : Nat) (f : Int → Option Nat) (hd : DatIs D f)
    (hit : a.eval it = .pointer (some ⟨r, 0, none⟩)) (h : w.ranges Tryz.prog 3 ptrElem b r n D left cnt)
    (hDone : cnt = 0 → (∀ kl, left kl = false) → wpList Tryz.prog ops Q rest (a.put o.dst (.tuple #[.bool false])) w)
    (hMore : ∀ (k : Int) (c : Nat) (w' : World) (cnt' : Nat), wfI k → left (.int .i64 k) = true → f k = some c → w'.ranges Tryz.prog 3 ptrElem b r n D (fun z => left z && !z.sameKey (.int .i64 k)) cnt' → cnt' < cnt →
      w.grownBy w' (some r) → w'.heap.size = w.heap.size → (Instr.entry (.pointer (some ⟨r, 0, none⟩))).run Tryz.prog w' = .ok (.tuple #[.int .i64 k, .pointer (some ⟨c, 0, none⟩)]) w' → wpList Tryz.prog ops Q rest (a.put o.dst (.tuple #[.bool true, .int .i64 k, .pointer (some ⟨c, 0, none⟩)])) w') :
    wpList Tryz.prog ops Q (o :: rest) a w := by
  refine wpList_next_ranges w hg it hop 3 keyedI ptrElem (Value.int .i64) mkP (fun key kl hkey => by obtain ⟨x, rfl, _⟩ := Maps.keyOf_int_inv Tryz.underlying3 hkey; exact ⟨x, rfl⟩) (fun v y hv => by obtain ⟨c, rfl, _⟩ := ptrElem_inv hv; exact ⟨c, rfl⟩)
    b r n D left cnt hit h hDone (fun x c kl y w' cnt' hkey hlk hv hat hrg hlt hgr hsz hen => ?_)
  obtain ⟨x', ex, rfl, hwx⟩ := Maps.keyOf_int_inv Tryz.underlying3 hkey
  cases ex
  obtain ⟨c', ec, rfl⟩ := ptrElem_inv hv
  obtain rfl := mkP_inj ec
  obtain ⟨bb, rfl, hf⟩ := hd.at hwx hat
  exact hMore x bb w' cnt' hwx hlk hf hrg hlt hgr hsz hen
end
theorem del1_any (w : World) (k : Int) (b cb : Nat) (x a : Int) (hx : w.cell? ⟨b, 0, none⟩ = some (.int .i64 x)) (ha : w.cell? ⟨cb, 0, none⟩ = some (.int .i64 a)) :
    Calls Tryz.prog 30 #[.int .i64 k, .pointer (some ⟨b, 0, none⟩), .pointer (some ⟨cb, 0, none⟩)] w (Same w (.bool (x == a))) := by
  refine calls_abs fun R hR => ?_
  go_enter Tryz.func30, Tryz.ntmps30
  go_wp2_with fail
  go_quiet (fail)
  go_wp2_with fail
  exact hR.out _ _ ⟨rfl, _, rfl⟩
def keepAr (f : Int → Option Nat) (ar : Int → Int) (a : Int) (k : Int) : Option Nat := if ar k = a then none else f k
def midAr (f : Int → Option Nat) (ar : Int → Int) (a : Int) (left : Lit → Bool) (k : Int) : Option Nat := if left (.int .i64 k) then f k else keepAr f ar a k
theorem deleteFunc_any (w : World) (mb n cb : Nat) (f : Int → Option Nat) (ar : Int → Int) (a : Int) (h : MapAt w mb n f) (hcb : w.cell? ⟨cb, 0, none⟩ = some (.int .i64 a)) (hne : cb ≠ mb)
    (hth : ∀ k b, f k = some b → w.cell? ⟨b, 0, none⟩ = some (.int .i64 (ar k)) ∧ b ≠ mb) :
    Calls Tryz.prog 29 #[.map (some mb), .func (.func 30) #[] #[.pointer (some ⟨cb, 0, none⟩)]] w fun e w' =>
      (∃ v, e = .returned v) ∧ MapAt w' mb n (keepAr f ar a) ∧ OnlyP (· = mb) w w' := by
  refine calls_abs fun R hR => ?_
  obtain ⟨D0, hown, hdat0⟩ := h
  have hdat : DatIs D0 f := hdat0
  have HTH := Lib.hid hth
  have HD := Lib.hid hdat
  clear hth hdat hdat0
  go_enter Tryz.func29, Tryz.ntmps29
  go_wp2_with (at_range; refine wpList_range_own _ rfl _ 41 rfl 3 53 keyedI Tryz.underlying41 ptrElem mb n D0 rfl hown ?_; intro w0 hrg0 hg0 hs0)
  go_frame
  have O0 : OnlyP (· = mb) w w0 := (OnlyP.refl _ w).grown hg0 (fun k hk => by cases hk)
  go_loopw [4, 5] (fun _ _ wr => ∃ left cnt D, wr.ranges Tryz.prog 3 ptrElem mb w.heap.size n D left cnt ∧ DatIs D (midAr f ar a left) ∧ OnlyP (· = mb) w wr) (fun _ _ wr => wr.rangeLeft mb w.heap.size)
  case atStart =>
    refine ⟨_, _, _, hrg0, HD.out.congr (fun k hk => ?_), O0⟩
    unfold midAr
    have := (HD.out k hk).1
    cases hf : f k with
    | none => rw [hf] at this; rw [if_neg (by rw [this]; simp)]; unfold keepAr; rw [hf]; simp
    | some b => rw [hf] at this; rw [if_pos (by rw [this]; rfl)]
  case round =>
    clear hrg0 hg0 hs0 O0
    obtain ⟨left, cnt, D, hrg, hdat, hO⟩ := hrel
    have HRG := Lib.hid hrg
    have HDT := Lib.hid hdat
    have HO := Lib.hid hO
    clear hrg hdat hO
    go_wp2_with (at_next; refine wpList_next_things rfl _ rfl mb w.heap.size n D left cnt _ HDT.out rfl HRG.out ?_ ?_)
    · intro _ hl0
      go_wp2_with fail
      go_end0
      refine hR.out _ _ ⟨⟨_, rfl⟩, ⟨D, HRG.out.owns, HDT.out.congr (fun k hk => ?_)⟩, HO.out⟩
      unfold midAr
      rw [if_neg (by rw [hl0]; simp)]
    · intro k c w1 cnt1 hwk hlk hfk hrg1 hlt hg1 hs1 hen
      have hfk2 : f k = some c := by unfold midAr at hfk; rw [if_pos hlk] at hfk; exact hfk
      obtain ⟨hc0, hcm⟩ := HTH.out k c hfk2
      have hclt := World.block_lt_of_cell? w _ hc0
      have hcblt := World.block_lt_of_cell? w _ hcb
      have hc1 : w1.cell? ⟨c, 0, none⟩ = some (.int .i64 (ar k)) := (hg1.cell_far ⟨c, 0, none⟩ (World.block_lt_of_cell? wr _ (HO.out.cell hc0 hcm)) (by simp; simp at hclt; omega)).trans (HO.out.cell hc0 hcm)
      have hb1 : w1.cell? ⟨cb, 0, none⟩ = some (.int .i64 a) := (hg1.cell_far ⟨cb, 0, none⟩ (World.block_lt_of_cell? wr _ (HO.out.cell hcb hne)) (by simp; simp at hcblt; omega)).trans (HO.out.cell hcb hne)
      have O1 : Hid (OnlyP (· = mb) w w1) := HO.out.grown hg1 (fun j hj => by cases hj; exact .inr (Nat.le_refl _))
      have hdel := del1_any w1 k c cb (ar k) a hc1 hb1
      have hmeas : cnt1 < wr.rangeLeft mb w.heap.size := by rw [HRG.out.left_eq]; exact hlt
      have HR1 := Lib.hid hrg1
      have HG1 := Lib.hid hg1
      have HFK := Lib.hid hfk2
      have HLK := Lib.hid hlk
      have hmid : Hid (∀ j, j ≠ k → midAr f ar a (fun z => left z && !z.sameKey (.int .i64 k)) j = midAr f ar a left j) := fun j hj => by
        unfold midAr
        simp only [sameI j k hwk, hj, decide_false, Bool.not_false, Bool.and_true]
      have hmidk : Hid (midAr f ar a (fun z => left z && !z.sameKey (.int .i64 k)) k = keepAr f ar a k) := by
        show _ = _
        unfold midAr
        simp only [sameI k k hwk, decide_true, Bool.not_true, Bool.and_false, Bool.false_eq_true, if_false]
      clear hrg1 hg1 hfk hfk2 hlk hc0 hc1 hb1 hlt hclt hcblt
      cases hab : (ar k == a)
      · rw [hab] at hdel
        have HAB := Lib.hid hab
        clear hab
        go_wp2_with fail
        refine hdel.mono ?_
        rintro e _ ⟨rfl, m, rfl⟩
        go_wp2_with fail
        refine ⟨⟨_, cnt1, D, HR1.out.kept (row := none) ⟨rfl, rfl, rfl, Nat.le_refl _, fun _ _ _ => rfl⟩ (by simp) (by simp), HDT.out.congr (fun j hj => ?_), O1.out.drewN m⟩, ?_⟩
        · by_cases e : j = k
          · subst e
            rw [hmidk.out]
            unfold midAr keepAr
            have : ar j ≠ a := by have := HAB.out; simpa using this
            rw [if_pos HLK.out, if_neg this]
          · rw [hmid.out j e]
        · have := (HR1.out.kept (w' := w1.drewN m) (row := none) ⟨rfl, rfl, rfl, Nat.le_refl _, fun _ _ _ => rfl⟩ (by simp) (by simp)).left_eq
          rw [this]; exact hmeas
      · rw [hab] at hdel
        have HAB := Lib.hid hab
        clear hab
        go_wp2_with fail
        refine hdel.mono ?_
        rintro e _ ⟨rfl, m, rfl⟩
        go_wp2_with (at_delete; refine wpList_delete_ranges _ rfl _ _ 41 3 rfl 53 keyedI Tryz.underlying41 ptrElem mb w.heap.size n D _ cnt1 rfl (HR1.out.kept (w' := w1.drewN m) (row := none) ⟨rfl, rfl, rfl, Nat.le_refl _, fun _ _ _ => rfl⟩ (by simp) (by simp)) _ _ rfl (keyI hwk) ?_; intro w2 cnt2 hrg2 hle hturn)
        rw [Maps.strike_twice] at hrg2
        have HR2 := Lib.hid hrg2
        have HT := Lib.hid hturn
        clear hrg2 hturn
        go_frame
        go_wp2_with fail
        refine ⟨⟨_, cnt2, D.del (.int .i64 k), HR2.out, (HDT.out.del k).congr (fun j hj => ?_), (O1.out.drewN m).grown HT.out.grown (fun j hj => by cases hj; exact .inl rfl)⟩, ?_⟩
        · by_cases e : j = k
          · subst e
            rw [if_pos rfl, hmidk.out]
            unfold keepAr
            have : ar j = a := by have := HAB.out; simpa using this
            rw [if_pos this]
          · rw [if_neg e, hmid.out j e]
        · rw [HR2.out.left_eq]; omega
end Go.Proofs.YtkacgbigeobncaaGreat
