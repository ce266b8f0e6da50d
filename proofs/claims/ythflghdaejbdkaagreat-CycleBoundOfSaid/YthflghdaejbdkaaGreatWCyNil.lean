/- Lemmas of this claim. -/
import Derived.Test.YthflghdaejbdkaaGreatWCyZC
import Derived.Test.YthflghdaejbdkaaGreatWReach
namespace Go.Proofs.YthflghdaejbdkaaGreat
open Go.RowKit Go.Maps
set_option maxHeartbeats 6400000
set_option maxRecDepth 100000
set_option linter.unusedVariables false
section
variable {w0 w : World} {l : List Asn} {b : Nat} {c c' : Co} {x : CX} {i : Nat}
theorem CoA.wrap {f : FuncId} {args : Array Value} {r : Value} (hf : Fam w0 w l) (hi : l[i]? = some (CoA b c)) (hc : ∀ x : CX, x.ok c → Fam w0 w (C5 b c x ++ l.set i NoA) → Calls Tryz.prog f args w (fun e w' => e = .returned r ∧ ∃ x' : CX, x'.ok c' ∧ Fam w0 w' (C5 b c' x' ++ l.set i NoA))) :
    Calls Tryz.prog f args w (fun e w' => e = .returned r ∧ Fam w0 w' (l.set i (CoA b c'))) := by
  obtain ⟨x, hx, hf2⟩ := CoA.open hf hi
  exact (hc x hx hf2).mono fun e w' ⟨he, x', hx', hf'⟩ => ⟨he, CoA.close hx' hf' (List.getElem?_eq_some_iff.1 hi).1⟩
theorem CoA.back (hf : Fam w0 w (C5 b c x ++ l.set i NoA)) (hx : x.ok c) (hi : l[i]? = some (CoA b c)) : Fam w0 w l := by
  have := CoA.close hx hf (List.getElem?_eq_some_iff.1 hi).1
  rwa [set_get hi] at this
theorem cfinish_rep (w : World) (hf : Fam w0 w l) (hi : l[i]? = some (CoA b c)) (h : c.Okc) : Calls Tryz.prog 44 #[.pointer (some ⟨b, 0, none⟩)] w (fun e w' => e = .returned (.tuple #[.int .i64 c.finish.1, .int .i64 c.finish.2.1, .int .i64 c.finish.2.2.1]) ∧ Fam w0 w' (l.set i (CoA b c.finish.2.2.2))) :=
  CoA.wrap hf hi fun x hx hf2 => cfinish_any w hf2 hx h
theorem cnewObject_rep (w : World) (hf : Fam w0 w l) (hi : l[i]? = some (CoA b c)) (h : c.Ok) (k : Int) (va : Option Addr) (n vc : Nat) (bl : List Bool) (hn : bl.length = n) (hl : n ≤ 1000000) (hv : ∀ wx, Fam w0 wx (l.set i NoA) → BArg wx (.slice va n vc) bl) :
    Calls Tryz.prog 45 #[.pointer (some ⟨b, 0, none⟩), .int .i64 k, .slice va n vc] w (fun e w' => e = .returned (.tuple #[.int .i64 (c.newObject k bl).1, .int .i64 (c.newObject k bl).2.1]) ∧ Fam w0 w' (l.set i (CoA b (c.newObject k bl).2.2))) :=
  CoA.wrap hf hi fun x hx hf2 => cnewObject_any w hf2 hx h k va n vc bl hn hl (fun wx _ _ h => hv wx (Fam.rest h))
theorem cbegin_rep (w : World) (hf : Fam w0 w l) (hi : l[i]? = some (CoA b c)) (h : c.Okc) (a : Option Addr) (n cp : Nat) (roots : List Int) (hl : roots.length = n) (hn : n ≤ 1000000) (hw : ∀ y ∈ roots, wfI y) (hr : ∀ wx, Fam w0 wx (l.set i NoA) → Read wx (.slice a n cp) roots) :
    Calls Tryz.prog 51 #[.pointer (some ⟨b, 0, none⟩), .slice a n cp] w (fun e w' => e = .returned (.int .i64 (c.begin roots).1) ∧ Fam w0 w' (l.set i (CoA b (c.begin roots).2))) :=
  CoA.wrap hf hi fun x hx hf2 => cbegin_any w hf2 hx h a n cp roots hl hn hw hr
theorem cphaseA_rep (w : World) (hf : Fam w0 w l) (hi : l[i]? = some (CoA b c)) : Calls Tryz.prog 53 #[.pointer (some ⟨b, 0, none⟩)] w (Exact w (.int .i64 (c.ph : Int))) := by
  obtain ⟨x, hx, hf2⟩ := CoA.open hf hi
  exact cphase_rep w hf2
theorem cheap_rep (w : World) (hf : Fam w0 w l) (hi : l[i]? = some (CoA b c)) : Calls Tryz.prog 55 #[.pointer (some ⟨b, 0, none⟩)] w (fun e w' => ∃ q, e = .returned (.pointer (some ⟨q, 0, none⟩)) ∧ Only [] w w' ∧ Fam w0 w' (l ++ [PH q c.m.M])) := by
  obtain ⟨x, hx, hf2⟩ := CoA.open hf hi
  have hil := (List.getElem?_eq_some_iff.1 hi).1
  refine (cheap_any w hf2).mono fun e w' ⟨q, he, ho, hf'⟩ => ⟨q, he, ho, ?_⟩
  have h2 : Fam w0 w' (C5 b c x ++ (l ++ [PH q c.m.M]).set i NoA) := by
    rw [List.set_append_left _ _ hil]
    exact hf'
  exact CoA.back h2 hx (lat_left hi)
end
def sanM : Hp := (((Hp.new 2).newObject 0 []).2.2.newObject 0 []).2.2
def san3 : Co := ⟨(Mk.start sanM).shades [1], Tb.new, 1, -2, 0, 2, [], 0⟩
theorem san_facts : ((Hp.new 2).newObject 0 []).1 = 1 ∧ ((Hp.new 2).newObject 0 []).2.1 = 0 ∧ (((Hp.new 2).newObject 0 []).2.2.newObject 0 []).1 = 2 ∧ (((Hp.new 2).newObject 0 []).2.2.newObject 0 []).2.1 = 0 := by decide +kernel
theorem san_ob : (sanM.ob 1).isSome = true := by decide +kernel
theorem san_steps : (Co.steps 6 san3).ph = 0 ∧ (∀ j, j < 6 → (Co.steps j san3).ph ≠ 0) ∧ (Co.steps 6 san3).m.M.handles = [1] := by decide +kernel
end Go.Proofs.YthflghdaejbdkaaGreat
namespace Go.Proofs.YthflghdaejbdkaaGreat
open Go.RowKit Go.Maps
set_option maxHeartbeats 6400000
set_option maxRecDepth 100000
set_option linter.unusedVariables false
theorem give_idle {c : Co} (hp : c.ph = 0) (n : Int) : c.give n = (0, c) := by unfold Co.give; rw [if_pos hp]
theorem newObject_idle {c : Co} (hp : c.ph = 0) : c.newObject 0 [] = ((c.m.M.newObject 0 []).1, (c.m.M.newObject 0 []).2.1, { c with m := c.m.put (c.m.M.newObject 0 []).2.2 }) := by
  unfold Co.newObject
  rw [if_neg (by simp), give_idle hp]
  show c.newObj 0 [] = _
  unfold Co.newObj
  rw [if_neg (by rw [bar_iff]; omega)]
theorem san_begin {c : Co} (hm : c.m = Mk.start sanM) (ht : c.t = Tb.new) (hp : c.ph = 0) (hr : c.rate = 0) (hg : c.pages = 2) (hs : c.sw = []) : c.begin [1] = (0, san3) := by
  have hbad : ¬ sanM.badRoot [1] := by
    rintro ⟨y, hy, _, h⟩
    have hy1 : y = 1 := by simpa using hy
    have := san_ob
    rw [← hy1, h] at this
    cases this
  unfold Co.begin
  rw [if_neg (by simp), if_neg (fun e => e hp), hm, if_neg (show ¬ (Mk.start sanM).M.badRoot [1] from hbad)]
  obtain ⟨m, t, ph, cr, rate, pages, sw, mv⟩ := c
  cases hm
  cases ht
  cases hr
  cases hg
  cases hs
  rfl
theorem san_finish (h : san3.Okc) : san3.finish = ((6 : Int), Co.costs 6 san3, 0, Co.steps 6 san3) := by
  have h6 := Co.fins_eq h san_steps.2.1 san_steps.1
  unfold Co.finish
  rw [if_neg (by show ¬ (1 : Nat) = 0; decide), ← h6]
  rfl
theorem csane_any (w : World) : Calls Tryz.prog 32 #[] w (fun e w' => e = .returned (.bool true) ∧ Only [] w w') := by
  refine calls_abs fun R hR => ?_
  have c1 := cnew_good w (Fam.nil w) 2 0 (by omega) (by omega) ⟨Int.le_refl 0, by decide⟩
  have K0 : Hid ((Co.new 2 0).Ok) := Co.Ok.new (by omega) (by omega) ⟨Int.le_refl 0, by decide⟩
  go_enter Tryz.func32, Tryz.ntmps32
  go_wp2_with fail
  refine c1.mono ?_
  rintro e w1 ⟨b, rfl, hf1⟩
  have F1 : Hid (Fam w w1 [CoA b (Co.new 2 0)]) := hf1
  have c2 := cnewObject_rep w1 F1.out (i := 0) rfl K0.out 0 none 0 0 [] rfl (by omega) (fun wx _ => .inl ⟨rfl, rfl⟩)
  have K1 := Lib.hid (K0.out.newObject 0 [])
  obtain ⟨d, hd⟩ : ∃ d, d = ((Co.new 2 0).newObject 0 []).2.2 := ⟨_, rfl⟩
  have HD : Hid (d = { Co.new 2 0 with m := (Co.new 2 0).m.put ((Hp.new 2).newObject 0 []).2.2 }) := by show _ = _; rw [hd, newObject_idle rfl]; rfl
  rw [← hd] at c2 K1
  rw [show ((Co.new 2 0).newObject 0 []).1 = 1 by rw [newObject_idle rfl]; exact san_facts.1] at c2
  clear c1 hf1 hd
  generalize ((Co.new 2 0).newObject 0 []).2.1 = e1 at *
  go_wp2_with fail
  refine c2.mono ?_
  rintro e w2 ⟨rfl, hf2⟩
  have F2 : Hid (Fam w w2 [CoA b d]) := hf2
  have hdp : d.ph = 0 := by rw [HD.out]; rfl
  have hdM : d.m.M = ((Hp.new 2).newObject 0 []).2.2 := by rw [HD.out]; rfl
  have c3 := cnewObject_rep w2 F2.out (i := 0) rfl K1.out 0 none 0 0 [] rfl (by omega) (fun wx _ => .inl ⟨rfl, rfl⟩)
  have K2 := Lib.hid (K1.out.newObject 0 [])
  obtain ⟨d2, hd2⟩ : ∃ d2, d2 = (d.newObject 0 []).2.2 := ⟨_, rfl⟩
  have HD2 : Hid (d2 = { d with m := d.m.put (d.m.M.newObject 0 []).2.2 }) := by show _ = _; rw [hd2, newObject_idle hdp]
  rw [← hd2] at c3 K2
  rw [show (d.newObject 0 []).1 = 2 by rw [newObject_idle hdp, hdM]; exact san_facts.2.2.1] at c3
  have HB : Hid (d2.begin [1] = (0, san3)) := by
    have hm : d2.m = Mk.start sanM := by rw [HD2.out]; show d.m.put _ = _; rw [hdM, HD.out]; rfl
    refine san_begin hm ?_ ?_ ?_ ?_ ?_ <;> (rw [HD2.out, HD.out]; rfl)
  clear c2 hf2 hd2 hdp hdM F1
  generalize (d.newObject 0 []).2.1 = e2 at *
  go_wp2_with fail
  refine c3.mono ?_
  rintro e w3 ⟨rfl, hf3⟩
  have F3 : Hid (Fam w w3 [CoA b d2]) := hf3
  have F4 : Hid (Fam w (w3.alloc (.cells #[.int .i64 1] 3)) [CoA b d2, RowA w3.heap.size 3 [.int .i64 1]]) := F3.out.addRow 3 [.int .i64 1]
  clear c3 hf3 F2
  have c4 := cbegin_rep _ F4.out (i := 0) rfl K2.out.k (some ⟨w3.heap.size, 0, none⟩) 1 1 [1] rfl (by omega) (fun y hy => by simp at hy; rw [hy]; exact wfI_mk (by decide)) (fun wx hx => .inl ⟨w3.heap.size, 0, 1, rfl, fun k hk => by
    have h0 : k = 0 := by simp at hk; omega
    subst h0
    exact (hx.row 1 rfl).cell 0 rfl⟩)
  rw [HB.out] at c4
  have K3 : Hid (san3.Ok) := by have := K2.out.begin [1]; rw [HB.out] at this; exact this
  go_wp2_with fail
  refine c4.mono ?_
  rintro e w5 ⟨rfl, hf5⟩
  have F5 : Hid (Fam w w5 [CoA b san3, RowA w3.heap.size 3 [.int .i64 1]]) := hf5
  have c5 := cfinish_rep w5 F5.out (i := 0) rfl K3.out.k
  rw [san_finish K3.out.k] at c5
  have hcl := Co.costs_le K3.out.k 6
  clear c4 hf5 F4 F3
  generalize Co.costs 6 san3 = cs at *
  go_wp2_with fail
  refine c5.mono ?_
  rintro e w6 ⟨rfl, hf6⟩
  have F6 : Hid (Fam w w6 [CoA b (Co.steps 6 san3), RowA w3.heap.size 3 [.int .i64 1]]) := hf6
  have HP6 : Hid ((Co.steps 6 san3).ph = 0) := san_steps.1
  have HH6 : Hid ((Co.steps 6 san3).m.M.handles = [1]) := san_steps.2.2
  generalize Co.steps 6 san3 = d6 at *
  have c6 := cheap_rep w6 F6.out (i := 0) rfl
  clear c5 hf6 F5
  go_wp2_with fail
  refine c6.mono ?_
  rintro e w7 ⟨q, rfl, ho7, hf7⟩
  have F7 : Hid (Fam w w7 [CoA b d6, RowA w3.heap.size 3 [.int .i64 1], PH q d6.m.M]) := hf7
  obtain ⟨hk7, L7, X7, hp7⟩ := F7.out.ph 2 rfl
  have c7 := handles_rep w7 hp7 hk7
  rw [HH6.out] at c7
  clear c6 hf7 ho7 F6 hk7 hp7
  go_wp2_with fail
  refine c7.mono ?_
  rintro e w8 ⟨v8, rfl, hi8, ho8⟩
  have F8 := Lib.hid (F7.out.only0 ho8)
  obtain ⟨va, vc, hv8⟩ := hi8.len
  subst hv8
  obtain ⟨vb, vo, rfl, h8⟩ := hi8.read.at (k := 0) (by simp)
  replace h8 : w8.cell? ⟨vb, vo, none⟩ = some (.int .i64 1) := by rw [Nat.add_zero] at h8; exact h8
  have c8 := cphaseA_rep w8 F8.out (i := 0) rfl
  rw [HP6.out] at c8
  clear c7 hi8 ho8 F7
  go_wp2_with fail
  refine c8.mono ?_
  rintro e _ ⟨rfl, rfl⟩
  have HE := Lib.hid F8.out.only
  clear c8 F8
  go_wp2_with fail
  exact hR.out _ _ ⟨rfl, HE.out⟩
end Go.Proofs.YthflghdaejbdkaaGreat
namespace Go.Proofs.YthflghdaejbdkaaGreat
open Go.RowKit Go.Maps
set_option maxHeartbeats 12800000
set_option maxRecDepth 100000
set_option linter.unusedVariables false
theorem walk_CycleNil (a b n : Int) (w : World) (wa : wfI a) (wb : wfI b) (wn : wfI n) : Calls Tryz.prog 9 #[.int .i64 a, .int .i64 b, .int .i64 n] w fun e w' => e = .returned (.bool true) ∧ Below w.heap.size w w' := by
  refine calls_abs fun R hR => ?_
  clear wa wb wn
  go_enter Tryz.func9, Tryz.ntmps9
  have c := cstep_nil w
  go_wp2_with fail
  refine c.mono ?_
  rintro e _ ⟨rfl, rfl⟩
  clear c
  have c := ccost_nil w
  go_wp2_with fail
  refine c.mono ?_
  rintro e _ ⟨rfl, rfl⟩
  clear c
  have c := cgiveE_nil w n
  go_wp2_with fail
  refine c.mono ?_
  rintro e _ ⟨rfl, rfl⟩
  clear c
  have c := cfinish_nil w
  go_wp2_with fail
  refine c.mono ?_
  rintro e _ ⟨rfl, rfl⟩
  clear c
  have c := cnewObject_nil w 0 (.slice none 0 0)
  go_wp2_with fail
  refine c.mono ?_
  rintro e _ ⟨rfl, rfl⟩
  clear c
  have c := cnewArray_nil w 3 0 1
  go_wp2_with fail
  refine c.mono ?_
  rintro e _ ⟨rfl, rfl⟩
  clear c
  have c := cget_nil w a b
  go_wp2_with fail
  refine c.mono ?_
  rintro e _ ⟨rfl, rfl⟩
  clear c
  have c := crefer_nil w 1 a b
  go_wp2_with fail
  refine c.mono ?_
  rintro e _ ⟨rfl, rfl⟩
  clear c
  have c := ctarget_nil w a
  go_wp2_with fail
  refine c.mono ?_
  rintro e _ ⟨rfl, rfl⟩
  clear c
  have c := ctake_nil w
  go_wp2_with fail
  refine c.mono ?_
  rintro e _ ⟨rfl, rfl⟩
  clear c
  have c := cbegin_nil w (.slice none 0 0)
  go_wp2_with fail
  refine c.mono ?_
  rintro e _ ⟨rfl, rfl⟩
  clear c
  have c := cstore_nil w a b n
  go_wp2_with fail
  refine c.mono ?_
  rintro e _ ⟨rfl, rfl⟩
  clear c
  have c := cphase_nil w
  go_wp2_with fail
  refine c.mono ?_
  rintro e _ ⟨rfl, rfl⟩
  clear c
  have c := ccredit_nil w
  go_wp2_with fail
  refine c.mono ?_
  rintro e _ ⟨rfl, rfl⟩
  clear c
  have c := cheap_nil w
  go_wp2_with fail
  refine c.mono ?_
  rintro e _ ⟨rfl, rfl⟩
  clear c
  have c := ccopy_nil w
  go_wp2_with fail
  refine c.mono ?_
  rintro e _ ⟨rfl, rfl⟩
  clear c
  go_wp2_with fail
  refine (csane_any w).mono ?_
  rintro e w1 ⟨rfl, ho⟩
  have HE := Lib.hid ho.bel
  clear ho
  go_wp2_with fail
  exact hR.out _ _ ⟨rfl, HE.out⟩
theorem rbound_any (w : World) (p r e : Int) : Calls Tryz.prog 31 #[.int .i64 p, .int .i64 r, .int .i64 e] w (Exact w (.tuple #[.int .i64 (boundOf p r e).1, .int .i64 (boundOf p r e).2])) := by
  refine calls_abs fun R hR => ?_
  unfold boundOf at hR
  by_cases h1 : p < 1
  · rw [if_pos (.inl h1)] at hR
    go_enter Tryz.func31, Tryz.ntmps31
    go_wp2_with fail
    exact hR.out _ _ ⟨rfl, rfl⟩
  by_cases h2 : 24 < p
  · rw [if_pos (.inr (.inl h2))] at hR
    go_enter Tryz.func31, Tryz.ntmps31
    go_wp2_with fail
    exact hR.out _ _ ⟨rfl, rfl⟩
  by_cases h3 : r < 0
  · rw [if_pos (.inr (.inr (.inl h3)))] at hR
    go_enter Tryz.func31, Tryz.ntmps31
    go_wp2_with fail
    exact hR.out _ _ ⟨rfl, rfl⟩
  by_cases h4 : 192 < r
  · rw [if_pos (.inr (.inr (.inr (.inl h4))))] at hR
    go_enter Tryz.func31, Tryz.ntmps31
    go_wp2_with fail
    exact hR.out _ _ ⟨rfl, rfl⟩
  by_cases h5 : e < 0
  · rw [if_pos (.inr (.inr (.inr (.inr (.inl h5)))))] at hR
    go_enter Tryz.func31, Tryz.ntmps31
    go_wp2_with fail
    exact hR.out _ _ ⟨rfl, rfl⟩
  by_cases h6 : 20 < e
  · rw [if_pos (.inr (.inr (.inr (.inr (.inr h6)))))] at hR
    go_enter Tryz.func31, Tryz.ntmps31
    go_wp2_with fail
    exact hR.out _ _ ⟨rfl, rfl⟩
  rw [if_neg (by omega)] at hR
  go_enter Tryz.func31, Tryz.ntmps31
  go_wp2_with fail
  exact hR.out _ _ ⟨rfl, rfl⟩
theorem walk_CycleBoundOf (p r e : Int) (w : World) (wp : wfI p) (wr : wfI r) (we : wfI e) : Calls Tryz.prog 4 #[.int .i64 p, .int .i64 r, .int .i64 e] w fun e w' => e = .returned (.bool true) ∧ Below w.heap.size w w' := by
  refine calls_abs fun R hR => ?_
  have c1 := cbound_any w p r e
  have c2 := rbound_any w p r e
  have HS : Hid (Calls Tryz.prog 32 #[] w (fun e w' => e = .returned (.bool true) ∧ Below w.heap.size w w')) := (csane_any w).mono fun e w' ⟨h1, h2⟩ => ⟨h1, h2.bel⟩
  clear wp wr we
  by_cases hg : p < 1 ∨ 24 < p ∨ r < 0 ∨ 192 < r ∨ e < 0 ∨ 20 < e
  · have hb : boundOf p r e = (0, 1) := by unfold boundOf; rw [if_pos hg]
    rw [hb] at c1 c2
    clear hb hg
    go_enter Tryz.func4, Tryz.ntmps4
    go_wp2_with fail
    refine c1.mono ?_
    rintro e1 _ ⟨rfl, rfl⟩
    clear c1
    go_wp2_with fail
    refine c2.mono ?_
    rintro e1 _ ⟨rfl, rfl⟩
    clear c2
    go_wp2_with fail
    refine HS.out.mono ?_
    rintro e1 w1 ⟨rfl, hb⟩
    have HE := Lib.hid hb
    clear hb
    go_wp2_with fail
    exact hR.out _ _ ⟨rfl, HE.out⟩
  · obtain ⟨B, hB⟩ : ∃ B, B = 1 + r + 4 + e + 2 * (8 * p + 16 * p) + 2 * (8 * p) + 8 * p * 12 := ⟨_, rfl⟩
    have hb : boundOf p r e = (B, 0) := by unfold boundOf; rw [if_neg hg, hB]
    rw [hb] at c1 c2
    clear hb
    by_cases h24 : p < 24
    · have c3 := cbound_any w (p + 1) r e
      obtain ⟨C, hC⟩ : ∃ C, C = 1 + r + 4 + e + 2 * (8 * (p + 1) + 16 * (p + 1)) + 2 * (8 * (p + 1)) + 8 * (p + 1) * 12 := ⟨_, rfl⟩
      have hb3 : boundOf (p + 1) r e = (C, 0) := by unfold boundOf; rw [if_neg (by omega), hC]
      rw [hb3] at c3
      have hlt : ¬ C ≤ B := by omega
      clear hb3
      have hp1 : 1 ≤ p := by omega
      clear hg hB hC
      go_enter Tryz.func4, Tryz.ntmps4
      go_wp2_with fail
      refine c1.mono ?_
      rintro e1 _ ⟨rfl, rfl⟩
      clear c1
      go_wp2_with fail
      refine c2.mono ?_
      rintro e1 _ ⟨rfl, rfl⟩
      clear c2
      go_wp2_with fail
      refine c3.mono ?_
      rintro e1 _ ⟨rfl, rfl⟩
      clear c3
      go_wp2_with fail
      refine HS.out.mono ?_
      rintro e1 w1 ⟨rfl, hb⟩
      have HE := Lib.hid hb
      clear hb
      go_wp2_with fail
      exact hR.out _ _ ⟨rfl, HE.out⟩
    · clear hg hB
      go_enter Tryz.func4, Tryz.ntmps4
      go_wp2_with fail
      refine c1.mono ?_
      rintro e1 _ ⟨rfl, rfl⟩
      clear c1
      go_wp2_with fail
      refine c2.mono ?_
      rintro e1 _ ⟨rfl, rfl⟩
      clear c2
      go_wp2_with fail
      refine HS.out.mono ?_
      rintro e1 w1 ⟨rfl, hb⟩
      have HE := Lib.hid hb
      clear hb
      go_wp2_with fail
      exact hR.out _ _ ⟨rfl, HE.out⟩
end Go.Proofs.YthflghdaejbdkaaGreat
