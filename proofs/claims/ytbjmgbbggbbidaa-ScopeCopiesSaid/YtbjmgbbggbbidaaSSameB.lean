/- Contracts of package scope: maps.EqualFunc with Same's function; Same. -/
import Derived.Test.YtbjmgbbggbbidaaSSame
namespace Go.Proofs.Ytbjmgbbggbbidaa
open Go.RowKit Go.Maps
set_option maxHeartbeats 3200000
set_option maxRecDepth 100000
set_option linter.unusedVariables false

/-- Two maps have the same keys, and what stands at each is equal. -/
def EqM (f1 f2 : Int → Option Nat) (g : Int → Bool) : Prop := ∀ k, wfI k → (f1 k).isSome = (f2 k).isSome ∧ ((f1 k).isSome = true → g k = true)
theorem EqM.no1 {f1 f2 : Int → Option Nat} {g : Int → Bool} {k : Int} (hk : wfI k) (h1 : (f1 k).isSome = true) (h2 : f2 k = none) : ¬ EqM f1 f2 g := fun h => by
  have := (h k hk).1; rw [h1, h2] at this; cases this
theorem EqM.no2 {f1 f2 : Int → Option Nat} {g : Int → Bool} {k : Int} (hk : wfI k) (h1 : (f1 k).isSome = true) (h2 : g k = false) : ¬ EqM f1 f2 g := fun h => by
  have := (h k hk).2 h1; rw [h2] at this; cases this
section
variable {w : World} {m1 m2 n1 n2 : Nat} {D1 D2 : DataW Unit} {f1 f2 : Int → Option Nat} {g : Int → Bool}
theorem has_sub (o1 : w.ownsMap Try.prog 3 ptrElem m1 n1 D1) (d1 : DatIs D1 f1) (d2 : DatIs D2 f2) (h : ∀ k, wfI k → (f1 k).isSome = true → (f2 k).isSome = true) : ∀ k, Maps.has D1 k = true → Maps.has D2 k = true := fun k hk => by
  obtain ⟨x, rfl, hx⟩ := ownsMap_key o1 hk
  rw [(d2 x hx).1]
  exact h x hx (by rw [← (d1 x hx).1]; exact hk)
theorem EqM.size (o1 : w.ownsMap Try.prog 3 ptrElem m1 n1 D1) (o2 : w.ownsMap Try.prog 3 ptrElem m2 n2 D2) (d1 : DatIs D1 f1) (d2 : DatIs D2 f2) (h : EqM f1 f2 g) : Maps.size D1 = Maps.size D2 := by
  have h1 := size_sub (o1.canon keyedI) (o2.canon keyedI) (has_sub o1 d1 d2 (fun k hk e => by rw [← (h k hk).1]; exact e))
  have h2 := size_sub (o2.canon keyedI) (o1.canon keyedI) (has_sub o2 d2 d1 (fun k hk e => by rw [(h k hk).1]; exact e))
  omega
theorem EqM.of (o1 : w.ownsMap Try.prog 3 ptrElem m1 n1 D1) (o2 : w.ownsMap Try.prog 3 ptrElem m2 n2 D2) (d1 : DatIs D1 f1) (d2 : DatIs D2 f2) (hs : Maps.size D1 = Maps.size D2)
    (h : ∀ k, wfI k → (f1 k).isSome = true → (f2 k).isSome = true ∧ g k = true) : EqM f1 f2 g := fun k hk => by
  have h1 := size_sub (o1.canon keyedI) (o2.canon keyedI) (has_sub o1 d1 d2 (fun k hk e => (h k hk e).1))
  refine ⟨?_, fun e => (h k hk e).2⟩
  cases e1 : (f1 k).isSome
  · cases e2 : (f2 k).isSome
    · rfl
    · have := h1.2 (by omega) (.int .i64 k) (by rw [(d2 k hk).1]; exact e2)
      rw [(d1 k hk).1, e1] at this
      cases this
  · rw [(h k hk e1).1]
end
theorem equalFunc_any (w : World) (m1 m2 n1 n2 : Nat) (f1 f2 : Int → Option Nat) (g : Int → Bool) (h1 : MapAt w m1 n1 f1) (h2 : MapAt w m2 n2 f2)
    (heq : ∀ k b1 b2 w', Only [] w w' → f1 k = some b1 → f2 k = some b2 → Calls Try.prog 58 #[.pointer (some ⟨b1, 0, none⟩), .pointer (some ⟨b2, 0, none⟩)] w' (fun e w'' => e = .returned (.bool (g k)) ∧ Only [] w' w'')) :
    Calls Try.prog 57 #[.map (some m1), .map (some m2), .func (.func 58) #[] #[]] w fun e w' =>
      ∃ r, e = .returned (.bool r) ∧ (r = true ↔ EqM f1 f2 g) ∧ Only [] w w' := by
  refine calls_abs fun R hR => ?_
  have HM2 := Lib.hid h2
  obtain ⟨D1, own1, dat1⟩ := h1
  obtain ⟨D2, own2, dat2⟩ := h2
  have d1 : DatIs D1 f1 := dat1
  have d2 : DatIs D2 f2 := dat2
  have HEQ := Lib.hid heq
  have HD1 := Lib.hid d1
  have HD2 := Lib.hid d2
  have O1 := Lib.hid own1
  have O2 := Lib.hid own2
  clear dat1 dat2 d1 d2 heq own1 own2
  by_cases hs : Maps.size D1 = Maps.size D2
  · have HS := Lib.hid hs
    go_enter Try.func57, Try.ntmps57
    go_wp2_with (first
      | (at_len; refine wpList_len_own _ rfl (.tmp 11) 56 rfl 3 74 Try.underlying56 ptrElem m1 n1 D1 rfl O1.out ?_)
      | (at_len; refine wpList_len_own _ rfl (.tmp 13) 56 rfl 3 74 Try.underlying56 ptrElem m2 n2 D2 rfl O2.out ?_)
      | (at_range; refine wpList_range_own _ rfl _ 56 rfl 3 74 keyedI Try.underlying56 ptrElem m1 n1 D1 rfl O1.out ?_; intro w0 hrg0 hg0 hs0))
    go_frame
    clear hs
    have Q0 : Only [] w w0 := (Only.refl [] w).grown hg0 (fun k hk => by cases hk)
    go_loopw [7] (fun _ wr => ∃ left cnt, wr.ranges Try.prog 3 ptrElem m1 w.heap.size n1 D1 left cnt ∧ Hid (∀ k, wfI k → (f1 k).isSome = true → left (.int .i64 k) = false → (f2 k).isSome = true ∧ g k = true) ∧ Only [] w wr) (fun _ wr => wr.rangeLeft m1 w.heap.size)
    case atStart =>
      refine ⟨_, _, hrg0, fun k hk h3 h4 => ?_, Q0⟩
      rw [(HD1.out k hk).1, h3] at h4
      cases h4
    case round =>
      clear hrg0 hg0 hs0 Q0
      obtain ⟨left, cnt, hrg, HF, hO⟩ := hrel
      have HRG := Lib.hid hrg
      have HO := Lib.hid hO
      clear hrg hO
      go_wp2_with (at_next; refine wpList_next_things rfl _ rfl m1 w.heap.size n1 D1 left cnt _ HD1.out rfl HRG.out ?_ ?_)
      · intro _ hl0
        have HL0 := Lib.hid hl0
        clear hl0
        go_wp2_with fail
        exact hR.out _ _ ⟨true, rfl, ⟨fun _ => EqM.of O1.out O2.out HD1.out HD2.out HS.out (fun k hk e => HF.out k hk e (HL0.out _)), fun _ => rfl⟩, HO.out⟩
      · intro k c w1 cnt1 hwk hlk hfk hrg1 hlt hg1 hs1 hen
        have QO1 : Hid (Only [] w w1) := HO.out.grown hg1 (fun j hj => by cases hj; exact .inr (Nat.le_refl _))
        have hlook := (HM2.out.only (QO1.out.toP0 (S := fun _ => False)) (fun x => x)).look_ok hwk
        have hmeas : cnt1 < wr.rangeLeft m1 w.heap.size := by rw [HRG.out.left_eq]; exact hlt
        have HR1 := Lib.hid hrg1
        have HFK := Lib.hid hfk
        have HLK := Lib.hid hlk
        have HWK : Hid (wfI k) := hwk
        have hstep : Hid (∀ j, wfI j → (f1 j).isSome = true → (left (.int .i64 j) && !(Lit.int .i64 j).sameKey (.int .i64 k)) = false → (f2 k).isSome = true → g k = true → (f2 j).isSome = true ∧ g j = true) := fun j hj e1 e2 e3 e4 => by
          by_cases e : j = k
          · subst e; exact ⟨e3, e4⟩
          · refine HF.out j hj e1 ?_
            rw [sameI j k hwk] at e2
            simp [e] at e2
            exact e2
        clear hrg1 hlk hfk hlt hg1 hs1
        cases hf2 : f2 k with
        | none =>
          rw [hf2] at hlook
          replace hlook : (Instr.lookup 56 (.map (some m2)) (.int .i64 k) true).run Try.prog w1 = .ok (.tuple #[.pointer none, .bool false]) w1 := hlook
          have HF2 := Lib.hid hf2
          clear hf2 hstep
          go_wp2_with fail
          exact hR.out _ _ ⟨false, rfl, ⟨fun h => (by cases h), fun h => absurd h (EqM.no1 HWK.out (by rw [HFK.out]; rfl) HF2.out)⟩, QO1.out⟩
        | some b2 =>
          rw [hf2] at hlook
          replace hlook : (Instr.lookup 56 (.map (some m2)) (.int .i64 k) true).run Try.prog w1 = .ok (.tuple #[.pointer (some ⟨b2, 0, none⟩), .bool true]) w1 := hlook
          have hc := HEQ.out k c b2 w1 QO1.out HFK.out hf2
          have HF2 := Lib.hid hf2
          clear hf2
          cases hg : g k
          · rw [hg] at hc
            have HG := Lib.hid hg
            clear hg hstep
            go_wp2_with fail
            refine hc.mono ?_
            rintro e w2 ⟨rfl, ho2⟩
            have QO2 := Lib.hid (QO1.out.trans ho2 (by simp))
            clear ho2 hc hlook
            go_wp2_with fail
            exact hR.out _ _ ⟨false, rfl, ⟨fun h => (by cases h), fun h => absurd h (EqM.no2 HWK.out (by rw [HFK.out]; rfl) HG.out)⟩, QO2.out⟩
          · rw [hg] at hc
            have HG := Lib.hid hg
            clear hg
            go_wp2_with fail
            refine hc.mono ?_
            rintro e w2 ⟨rfl, ho2⟩
            have QO2 := Lib.hid (QO1.out.trans ho2 (by simp))
            have HR2 := Lib.hid (ranges_only HR1.out (ho2.toP0 (S := fun _ => False)) (fun x => x) (fun x => x))
            clear ho2 hc hlook
            go_wp2_with fail
            exact ⟨⟨_, cnt1, HR2.out, fun j hj e1 e2 => hstep.out j hj e1 e2 (by rw [HF2.out]; rfl) HG.out, QO2.out⟩, by rw [HR2.out.left_eq]; exact hmeas⟩
  · have HNS := Lib.hid hs
    go_enter Try.func57, Try.ntmps57
    go_wp2_with (first
      | (at_len; refine wpList_len_own _ rfl (.tmp 11) 56 rfl 3 74 Try.underlying56 ptrElem m1 n1 D1 rfl O1.out ?_)
      | (at_len; refine wpList_len_own _ rfl (.tmp 13) 56 rfl 3 74 Try.underlying56 ptrElem m2 n2 D2 rfl O2.out ?_))
    exact hR.out _ _ ⟨false, rfl, ⟨fun h => (by cases h), fun h => absurd (h.size O1.out O2.out HD1.out HD2.out) HNS.out⟩, Only.refl _ _⟩

theorem equal_yes {P : Program} {f : FuncId} {args : Array Value} {w : World} {p : Prop} (h : Calls P f args w fun e w'' => ∃ r, e = .returned (.bool r) ∧ (r = true ↔ p) ∧ Drew w w'') (hp : p) : Calls P f args w fun e w'' => e = .returned (.bool true) ∧ Only [] w w'' :=
  h.mono fun e w'' ⟨r, he, hr, hd⟩ => by obtain rfl := hr.2 hp; exact ⟨he, hd.only []⟩
theorem equal_no {P : Program} {f : FuncId} {args : Array Value} {w : World} {p : Prop} (h : Calls P f args w fun e w'' => ∃ r, e = .returned (.bool r) ∧ (r = true ↔ p) ∧ Drew w w'') (hp : ¬ p) : Calls P f args w (Same w (.bool false)) :=
  h.mono fun e w'' ⟨r, he, hr, hd⟩ => by cases r with | true => exact absurd (hr.1 rfl) hp | false => exact ⟨he, hd⟩
theorem Only.cellN {w0 wl : World} (h : Only [] w0 wl) {a : Addr} {v : Value} (hc : w0.cell? a = some v) : wl.cell? a = some v := h.cell hc (by simp)
open Classical in
/-- What stands at a number is equal. -/
noncomputable def thEq (P P2 : Pm) (k : Int) : Bool := decide (P.ob k = P2.ob k)
theorem thEq_iff {P P2 : Pm} {k : Int} : thEq P P2 k = true ↔ P.ob k = P2.ob k := by unfold thEq; simp
/-- Two memories are equal in what they show. -/
def SameP (P P2 : Pm) : Prop := (∀ t, t < 5 → P.stk t = P2.stk t) ∧ P.scs = P2.scs ∧ ∀ k, wfI k → P.ob k = P2.ob k
theorem SameP.refl (P : Pm) : SameP P P := ⟨fun _ _ => rfl, rfl, fun _ _ => rfl⟩
section
variable {L L2 : Nat → Option Lb} {p q : Nat} {P P2 : Pm} {X X2 : PX}
theorem same_left (w : World) (v v2 : Value) (h : Nope w v) (b : Bool) (h2 : Calls Try.prog 46 #[v2] w (Exact w (.bool b))) : Calls Try.prog 23 #[v, v2] w (Exact w (.bool b)) := by
  refine calls_abs fun R hR => ?_
  have h1 := none_any w v h
  clear h
  go_enter Try.func23, Try.ntmps23
  go_wp2_with fail
  refine h1.mono ?_
  rintro e _ ⟨rfl, rfl⟩
  go_wp2_with fail
  refine h1.mono ?_
  rintro e _ ⟨rfl, rfl⟩
  go_wp2_with fail
  refine h2.mono ?_
  rintro e _ ⟨rfl, rfl⟩
  go_wp2_with fail
  exact hR.out _ _ ⟨rfl, rfl⟩
theorem same_right (w : World) (v2 : Value) (h : PRep w L p P X) (h2 : Nope w v2) : Calls Try.prog 23 #[.pointer (some ⟨p, 0, none⟩), v2] w (Exact w (.bool false)) := by
  refine calls_abs fun R hR => ?_
  have h1 := none_rep w h
  have h3 := none_any w v2 h2
  clear h h2
  go_enter Try.func23, Try.ntmps23
  go_wp2_with fail
  refine h1.mono ?_
  rintro e _ ⟨rfl, rfl⟩
  go_wp2_with fail
  refine h3.mono ?_
  rintro e _ ⟨rfl, rfl⟩
  go_wp2_with fail
  refine h1.mono ?_
  rintro e _ ⟨rfl, rfl⟩
  go_wp2_with fail
  exact hR.out _ _ ⟨rfl, rfl⟩
theorem PRep.stkRead {w : World} (h : PRep w L p P X) {t : Nat} (ht : t < 5) : Read w (X.sv t) (P.stk t) := (h.st t ht).1.read
theorem same_rep (w : World) (h : PRep w L p P X) (hok : P.ok) (h2 : PRep w L2 q P2 X2) (hok2 : P2.ok) :
    Calls Try.prog 23 #[.pointer (some ⟨p, 0, none⟩), .pointer (some ⟨q, 0, none⟩)] w fun e w' => ∃ r, e = .returned (.bool r) ∧ (r = true ↔ SameP P P2) ∧ Only [] w w' := by
  refine calls_abs fun R hR => ?_
  have n1 := none_rep w h
  have n2 := none_rep w h2
  have H := Lib.hid h
  have H2 := Lib.hid h2
  have OK := Lib.hid hok
  have OK2 := Lib.hid hok2
  clear h h2 hok hok2
  go_enter Try.func23, Try.ntmps23
  go_wp2_with fail
  refine n1.mono ?_
  rintro e _ ⟨rfl, rfl⟩
  go_wp2_with fail
  refine n2.mono ?_
  rintro e _ ⟨rfl, rfl⟩
  clear n1 n2
  go_wp2_with fail
  go_loopw [5, 18] (fun _ iv wr => ∃ k : Nat, k ≤ 5 ∧ iv = .int .i64 k ∧ Hid (∀ t, t < k → P.stk t = P2.stk t) ∧ Drew w wr) (fun _ iv _ => 5 - (intOf iv).toNat)
  case atStart => exact ⟨0, by omega, rfl, fun j hj => by omega, Drew.refl _⟩
  case round =>
    obtain ⟨k, hk, rfl, HF, hdr⟩ := hrel
    have HDR := Lib.hid hdr
    by_cases hlt : k < 5
    · have hlt1 : (k : Int) < 5 := by omega
      have hk0 : (0 : Int) ≤ k := by omega
      have c1 := hdr.cell (H.out.cells.2.1 k hlt)
      have c2 := hdr.cell (H2.out.cells.2.1 k hlt)
      have r1 := (H.out.stkRead hlt).only (hdr.only []) (by simp)
      have r2 := (H2.out.stkRead hlt).only (hdr.only []) (by simp)
      have hl1 := (OK.out.s1 k hlt).2
      have hl2 := (OK2.out.s1 k hlt).2
      have heq : ∀ n, Calls Try.prog 55 #[X.sv k, X2.sv k] (wr.drewN n) fun e w'' => e = .returned (.bool (decide (P.stk k = P2.stk k))) ∧ ∃ m, w'' = wr.drewN m := fun n =>
        Calls.quiet_of (equal_lists (wr.drewN n) _ _ _ _ (r1.only ((Only.refl [] wr).drewN n) (by simp)) (r2.only ((Only.refl [] wr).drewN n) (by simp)) (by omega) (by omega))
      obtain ⟨va1, vc1, hv1⟩ := r1.len
      obtain ⟨va2, vc2, hv2⟩ := r2.len
      rw [hv1] at c1 heq
      rw [hv2] at c2 heq
      have hdl : Hid (decide (P.stk k = P2.stk k) = true ↔ P.stk k = P2.stk k) := decide_eq_true_iff
      generalize decide (P.stk k = P2.stk k) = eb at heq hdl
      generalize (P.stk k).length = m1 at *
      generalize (P2.stk k).length = m2 at *
      clear r1 r2 hdr hv1 hv2
      cases eb
      · go_wp2_with fail
        go_quiet ((go_at_call 55; with_reducible exact heq _))
        go_wp2_with fail
        exact hR.out _ _ ⟨false, rfl, ⟨fun h => (by cases h), fun h => by have h3 := hdl.out; have := h.1 k hlt; simp [this] at h3⟩, (HDR.out.more _).only []⟩
      · go_wp2_with fail
        go_quiet ((go_at_call 55; with_reducible exact heq _))
        go_wp2_with fail
        exact ⟨⟨k + 1, by omega, by go_num, fun j hj => by
          by_cases e : j = k
          · rw [e]; have h3 := hdl.out; simp at h3; exact h3
          · exact HF.out j (by omega), HDR.out.more _⟩, by simp [intOf]; omega⟩
    · have HK5 : Hid (k = 5) := by show k = 5; omega
      have hk5 : (5 : Int) ≤ k := by omega
      have s1 := H.out.sc.spRead
      have s2 := H2.out.sc.spRead
      have hl1 := OK.out.n6
      have hl2 := OK2.out.n6
      obtain ⟨va1, vc1, hv1⟩ := s1.len
      obtain ⟨va2, vc2, hv2⟩ := s2.len
      have c1 := hdr.cell H.out.cells.1
      have c2 := hdr.cell H2.out.cells.1
      have c3 := hdr.cell H.out.cells.2.2.1
      have c4 := hdr.cell H2.out.cells.2.2.1
      have hsp : ∀ wx, Only [] w wx → SpRead wx X.scv P.scs ∧ SpRead wx X2.scv P2.scs := fun wx ho => ⟨(H.out.only0 ho).sc.spRead, (H2.out.only0 ho).sc.spRead⟩
      rw [hv1] at c1 hsp
      rw [hv2] at c2 hsp
      have heq : ∀ wx, Only [] w wx → Calls Try.prog 56 #[.slice va1 P.scs.length vc1, .slice va2 P2.scs.length vc2] wx fun e w'' => ∃ r, e = .returned (.bool r) ∧ (r = true ↔ P.scs = P2.scs) ∧ Drew wx w'' := fun wx ho =>
        equal_scopes wx _ _ _ _ (hsp wx ho).1 (hsp wx ho).2 (by omega) (by omega)
      have hmap : Hid (∀ wx, Only [] w wx → Calls Try.prog 57 #[.map (some X.mb), .map (some X2.mb), .func (.func 58) #[] #[]] wx fun e w' => ∃ r, e = .returned (.bool r) ∧ (r = true ↔ ∀ k, wfI k → P.ob k = P2.ob k) ∧ Only [] wx w') := fun wx ho => by
        have g1 := H.out.only0 ho
        have g2 := H2.out.only0 ho
        refine (equalFunc_any wx X.mb X2.mb P.made P2.made _ _ (thEq P P2) g1.mp g2.mp (fun k b1 b2 w' ho' e1 e2 => ?_)).mono ?_
        · have g1' := g1.only0 ho'
          have g2' := g2.only0 ho'
          cases o1 : P.ob k with
          | none => rw [o1] at e1; cases e1
          | some u1 =>
            cases o2 : P2.ob k with
            | none => rw [o2] at e2; cases e2
            | some u2 =>
              rw [o1] at e1
              rw [o2] at e2
              simp at e1 e2
              subst e1 e2
              obtain ⟨⟨T1, a1⟩, _, a3, _⟩ := g1'.th k u1 o1
              obtain ⟨⟨T2, b1⟩, _, b3, _⟩ := g2'.th k u2 o2
              have l1 := (OK.out.th k u1 o1).2.2.2.2.2.2.1
              have l2 := (OK2.out.th k u2 o2).2.2.2.2.2.2.1
              refine (equalThing w' _ _ u1 u2 _ _ T1 T2 a1 b1 a3.read b3.read (by omega) (by omega)).mono ?_
              rintro e w'' ⟨r, rfl, hr, hd⟩
              refine ⟨?_, hd.only []⟩
              have : r = thEq P P2 k := by rw [Bool.eq_iff_iff, hr, thEq_iff, o1, o2]; simp
              rw [this]
        · rintro e w' ⟨r, rfl, hr, ho'⟩
          refine ⟨r, rfl, ?_, ho'⟩
          rw [hr]
          constructor
          · intro h k hk
            obtain ⟨e1, e2⟩ := h k hk
            cases o1 : P.ob k with
            | none =>
              cases o2 : P2.ob k with
              | none => rfl
              | some u2 => simp [o1, o2] at e1
            | some u1 =>
              have := thEq_iff.1 (e2 (by simp [o1]))
              rw [← this, o1]
          · intro h k hk
            have := h k hk
            exact ⟨by simp [this], fun _ => thEq_iff.2 this⟩
      have hsame : Hid (SameP P P2 ↔ P.scs = P2.scs ∧ ∀ k, wfI k → P.ob k = P2.ob k) := by
        show _ ↔ _
        exact ⟨fun h => h.2, fun h => ⟨fun t ht => HF.out t (by have := HK5.out; omega), h⟩⟩
      rw [hsame.out] at hR
      have HEQ := Lib.hid heq
      have QD : Hid (Only [] w wr) := hdr.only []
      generalize X.mb = mb1 at *
      generalize X2.mb = mb2 at *
      clear s1 s2 hv1 hv2 heq hsame hsp
      by_cases hsc : P.scs = P2.scs
      · have HSC := Lib.hid hsc
        clear hsc
        have d1 : wr.drew.cell? ⟨p, 0, none⟩ = _ := c1
        have d2 : wr.drew.cell? ⟨q, 0, none⟩ = _ := c2
        have d3 : wr.drew.cell? ⟨p, 6, none⟩ = _ := c3
        have d4 : wr.drew.cell? ⟨q, 6, none⟩ = _ := c4
        go_wp2_with fail
        clear c1 c2 c3 c4 hdr
        go_region_held3 (fun w' => w'.cell? ⟨p, 0, none⟩ = some (.slice va1 P.scs.length vc1) ∧ w'.cell? ⟨q, 0, none⟩ = some (.slice va2 P2.scs.length vc2) ∧ w'.cell? ⟨p, 6, none⟩ = some (.map (some mb1)) ∧ w'.cell? ⟨q, 6, none⟩ = some (.map (some mb2)))
          (first
            | (exact ⟨d1, d2, d3, d4⟩)
            | (exact ⟨ho3.cellN d1, ho3.cellN d2, ho3.cellN d3, ho3.cellN d4⟩)
            | (exact ⟨ho4.cellN (ho3.cellN d1), ho4.cellN (ho3.cellN d2), ho4.cellN (ho3.cellN d3), ho4.cellN (ho3.cellN d4)⟩))
          (first
            | (go_at_call 56; refine (equal_yes (HEQ.out _ QD.out.drew) HSC.out).mono ?_; rintro e w3 ⟨rfl, ho3⟩)
            | (go_at_call 57; refine (hmap.out _ (QD.out.drew.trans ho3 (by simp))).mono ?_; rintro e w4 ⟨r, rfl, hr, ho4⟩))
        go_wp2_with fail
        exact hR.out _ _ ⟨r, rfl, by rw [hr]; exact ⟨fun h => ⟨HSC.out, h⟩, fun h => h.2⟩, (QD.out.drew.trans ho3 (by simp)).trans ho4 (by simp)⟩
      · have hq : ∀ n, Calls Try.prog 56 #[.slice va1 P.scs.length vc1, .slice va2 P2.scs.length vc2] (wr.drewN n) fun e w'' => e = .returned (.bool false) ∧ ∃ m, w'' = wr.drewN m := fun n =>
          Calls.quiet_of (equal_no (HEQ.out (wr.drewN n) (QD.out.drewN n)) hsc)
        have HSC := Lib.hid hsc
        clear hsc hdr
        go_wp2_with fail
        go_quiet ((go_at_call 56; with_reducible exact hq _))
        go_wp2_with fail
        exact hR.out _ _ ⟨false, rfl, ⟨fun h => (by cases h), fun h => absurd h.1 HSC.out⟩, QD.out.drewN _⟩
end
end Go.Proofs.Ytbjmgbbggbbidaa
