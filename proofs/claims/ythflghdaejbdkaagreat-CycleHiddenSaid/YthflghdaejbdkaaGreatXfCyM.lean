/- Lemmas of this claim. -/
import Derived.Test.YthflghdaejbdkaaGreatXfCyGI
import Derived.Test.YthflghdaejbdkaaGreatXfReach
import Derived.Test.YthflghdaejbdkaaGreatXfCySh
namespace Go.Proofs.YthflghdaejbdkaaGreat
open Go.RowKit Go.Maps
set_option maxHeartbeats 6400000
set_option maxRecDepth 100000
set_option linter.unusedVariables false
theorem give_idle {c : Co} (hp : c.ph = 0) (n : Int) : c.give n = (0, c) := by unfold Co.give; rw [if_pos hp]
theorem newObject_idle {c : Co} (hp : c.ph = 0) : c.newObject 0 [] = ((c.m.M.newObject 0 []).1, (c.m.M.newObject 0 []).2.1, { c with m := c.m.put (c.m.M.newObject 0 []).2.2 }) := by
  unfold Co.newObject
  rw [if_neg (by simp), give_idle hp]
  show c.newObj 0 [] = _
  unfold Co.newObj
  rw [if_neg (by rw [bar_iff]; omega)]
theorem san_begin {c : Co} (hm : c.m = Mk.start sanM) (ht : c.t = Tb.new) (hp : c.ph = 0) (hr : c.rate = 0) (hg : c.pages = 2) (hs : c.sw = []) : c.begin [1] = (0, san3) := by
  have hbad : ¬ sanM.badRoot [1] := by
    rintro ⟨y, hy, _, h⟩
    have hy1 : y = 1 := by simpa using hy
    have := san_ob
    rw [← hy1, h] at this
    cases this
  unfold Co.begin
  rw [if_neg (by simp), if_neg (fun e => e hp), hm, if_neg (show ¬ (Mk.start sanM).M.badRoot [1] from hbad)]
  obtain ⟨m, t, ph, cr, rate, pages, sw, mv⟩ := c
  cases hm
  cases ht
  cases hr
  cases hg
  cases hs
  rfl
theorem san_finish (h : san3.Okc) : san3.finish = ((6 : Int), Co.costs 6 san3, 0, Co.steps 6 san3) := by
  have h6 := Co.fins_eq h san_steps.2.1 san_steps.1
  unfold Co.finish
  rw [if_neg (by show ¬ (1 : Nat) = 0; decide), ← h6]
  rfl
theorem csane_any (w : World) : Calls Tryz.prog 32 #[] w (fun e w' => e = .returned (.bool true) ∧ Only [] w w') := by
  refine calls_abs fun R hR => ?_
  have c1 := cnew_good w (Fam.nil w) 2 0 (by omega) (by omega) ⟨Int.le_refl 0, by decide⟩
  have K0 : Hid ((Co.new 2 0).Ok) := Co.Ok.new (by omega) (by omega) ⟨Int.le_refl 0, by decide⟩
  go_enter Tryz.func32, Tryz.ntmps32
  go_wp2_with fail
  refine c1.mono ?_
  rintro e w1 ⟨b, rfl, hf1⟩
  have F1 : Hid (Fam w w1 [CoA b (Co.new 2 0)]) := hf1
  have c2 := cnewObject_rep w1 F1.out (i := 0) rfl K0.out 0 none 0 0 [] rfl (by omega) (fun wx _ => .inl ⟨rfl, rfl⟩)
  have K1 := Lib.hid (K0.out.newObject 0 [])
  obtain ⟨d, hd⟩ : ∃ d, d = ((Co.new 2 0).newObject 0 []).2.2 := ⟨_, rfl⟩
  have HD : Hid (d = { Co.new 2 0 with m := (Co.new 2 0).m.put ((Hp.new 2).newObject 0 []).2.2 }) := by show _ = _; rw [hd, newObject_idle rfl]; rfl
  rw [← hd] at c2 K1
  rw [show ((Co.new 2 0).newObject 0 []).1 = 1 by rw [newObject_idle rfl]; exact san_facts.1] at c2
  clear c1 hf1 hd
  generalize ((Co.new 2 0).newObject 0 []).2.1 = e1 at *
  go_wp2_with fail
  refine c2.mono ?_
  rintro e w2 ⟨rfl, hf2⟩
  have F2 : Hid (Fam w w2 [CoA b d]) := hf2
  have hdp : d.ph = 0 := by rw [HD.out]; rfl
  have hdM : d.m.M = ((Hp.new 2).newObject 0 []).2.2 := by rw [HD.out]; rfl
  have c3 := cnewObject_rep w2 F2.out (i := 0) rfl K1.out 0 none 0 0 [] rfl (by omega) (fun wx _ => .inl ⟨rfl, rfl⟩)
  have K2 := Lib.hid (K1.out.newObject 0 [])
  obtain ⟨d2, hd2⟩ : ∃ d2, d2 = (d.newObject 0 []).2.2 := ⟨_, rfl⟩
  have HD2 : Hid (d2 = { d with m := d.m.put (d.m.M.newObject 0 []).2.2 }) := by show _ = _; rw [hd2, newObject_idle hdp]
  rw [← hd2] at c3 K2
  rw [show (d.newObject 0 []).1 = 2 by rw [newObject_idle hdp, hdM]; exact san_facts.2.2.1] at c3
  have HB : Hid (d2.begin [1] = (0, san3)) := by
    have hm : d2.m = Mk.start sanM := by rw [HD2.out]; show d.m.put _ = _; rw [hdM, HD.out]; rfl
    refine san_begin hm ?_ ?_ ?_ ?_ ?_ <;> (rw [HD2.out, HD.out]; rfl)
  clear c2 hf2 hd2 hdp hdM F1
  generalize (d.newObject 0 []).2.1 = e2 at *
  go_wp2_with fail
  refine c3.mono ?_
  rintro e w3 ⟨rfl, hf3⟩
  have F3 : Hid (Fam w w3 [CoA b d2]) := hf3
  have F4 : Hid (Fam w (w3.alloc (.cells #[.int .i64 1] 3)) [CoA b d2, RowA w3.heap.size 3 [.int .i64 1]]) := F3.out.addRow 3 [.int .i64 1]
  clear c3 hf3 F2
  have c4 := cbegin_rep _ F4.out (i := 0) rfl K2.out.k (some ⟨w3.heap.size, 0, none⟩) 1 1 [1] rfl (by omega) (fun y hy => by simp at hy; rw [hy]; exact wfI_mk (by decide)) (fun wx hx => .inl ⟨w3.heap.size, 0, 1, rfl, fun k hk => by
    have h0 : k = 0 := by simp at hk; omega
    subst h0
    exact (hx.row 1 rfl).cell 0 rfl⟩)
  rw [HB.out] at c4
  have K3 : Hid (san3.Ok) := by have := K2.out.begin [1]; rw [HB.out] at this; exact this
  go_wp2_with fail
  refine c4.mono ?_
  rintro e w5 ⟨rfl, hf5⟩
  have F5 : Hid (Fam w w5 [CoA b san3, RowA w3.heap.size 3 [.int .i64 1]]) := hf5
  have c5 := cfinish_rep w5 F5.out (i := 0) rfl K3.out.k
  rw [san_finish K3.out.k] at c5
  have hcl := Co.costs_le K3.out.k 6
  clear c4 hf5 F4 F3
  generalize Co.costs 6 san3 = cs at *
  go_wp2_with fail
  refine c5.mono ?_
  rintro e w6 ⟨rfl, hf6⟩
  have F6 : Hid (Fam w w6 [CoA b (Co.steps 6 san3), RowA w3.heap.size 3 [.int .i64 1]]) := hf6
  have HP6 : Hid ((Co.steps 6 san3).ph = 0) := san_steps.1
  have HH6 : Hid ((Co.steps 6 san3).m.M.handles = [1]) := san_steps.2.2
  generalize Co.steps 6 san3 = d6 at *
  have c6 := cheap_rep w6 F6.out (i := 0) rfl
  clear c5 hf6 F5
  go_wp2_with fail
  refine c6.mono ?_
  rintro e w7 ⟨q, rfl, ho7, hf7⟩
  have F7 : Hid (Fam w w7 [CoA b d6, RowA w3.heap.size 3 [.int .i64 1], PH q d6.m.M]) := hf7
  obtain ⟨hk7, L7, X7, hp7⟩ := F7.out.ph 2 rfl
  have c7 := handles_rep w7 hp7 hk7
  rw [HH6.out] at c7
  clear c6 hf7 ho7 F6 hk7 hp7
  go_wp2_with fail
  refine c7.mono ?_
  rintro e w8 ⟨v8, rfl, hi8, ho8⟩
  have F8 := Lib.hid (F7.out.only0 ho8)
  obtain ⟨va, vc, hv8⟩ := hi8.len
  subst hv8
  obtain ⟨vb, vo, rfl, h8⟩ := hi8.read.at (k := 0) (by simp)
  replace h8 : w8.cell? ⟨vb, vo, none⟩ = some (.int .i64 1) := by rw [Nat.add_zero] at h8; exact h8
  have c8 := cphaseA_rep w8 F8.out (i := 0) rfl
  rw [HP6.out] at c8
  clear c7 hi8 ho8 F7
  go_wp2_with fail
  refine c8.mono ?_
  rintro e _ ⟨rfl, rfl⟩
  have HE := Lib.hid F8.out.only
  clear c8 F8
  go_wp2_with fail
  exact hR.out _ _ ⟨rfl, HE.out⟩
end Go.Proofs.YthflghdaejbdkaaGreat
namespace Go.Proofs.YthflghdaejbdkaaGreat
open Go.RowKit Go.Maps
set_option maxHeartbeats 6400000
set_option maxRecDepth 100000
set_option linter.unusedVariables false
section
variable {w0 w : World} {l : List Asn} {b : Nat} {c c' : Co} {x : GX5} {i : Nat}
end
def cbit (c : Int) (i : Nat) : Bool := bits BinOp.and IntKind.i64 (c / 2 ^ i) 1 == 1
def ccut (b : Int) : Nat := min b.toNat 9
def fbits (c : Int) (k : Nat) : List Bool := (List.range k).map (cbit c)
def fieldsL (b c : Int) : List Bool := fbits c (ccut b)
theorem fbits_len (c : Int) (k : Nat) : (fbits c k).length = k := by simp [fbits]
theorem fbits_succ (c : Int) (k : Nat) : fbits c (k + 1) = fbits c k ++ [cbit c k] := by simp [fbits, List.range_succ]
theorem ccut_le (b : Int) : ccut b ≤ 9 := Nat.min_le_right _ _
theorem fields_any (w : World) (b c : Int) : Calls Tryz.prog 91 #[.int .i64 b, .int .i64 c] w (fun e w' => ∃ v, e = .returned v ∧ Bls w' w.heap.size v (fieldsL b c) ∧ Only [] w w') := by
  refine calls_abs fun R hR => ?_
  go_enter Tryz.func91, Tryz.ntmps91
  go_wp2_with fail
  go_loopw [5, 6] (fun vv iv wr => ∃ k : Nat, k ≤ ccut b ∧ iv = .int .i64 k ∧ Bls wr w.heap.size vv (fbits c k) ∧ Only [] w wr) (fun _ iv _ => ccut b - (intOf iv).toNat)
  case atStart => exact ⟨0, by omega, rfl, Bls.nil _ _, Only.refl _ _⟩
  case round =>
    obtain ⟨k, hk, rfl, hi, ho⟩ := hrel
    have HI := Lib.hid hi
    have HO := Lib.hid ho
    obtain ⟨va, vc, hvv⟩ := hi.len
    rw [fbits_len] at hvv
    subst hvv
    clear hi ho
    by_cases hlt : (k : Int) < b
    · by_cases hl9 : (k : Int) < 9
      · have hk0 : (0 : Int) ≤ k := by omega
        have hkc : k < ccut b := by unfold ccut; omega
        have HBT : Hid ((bits BinOp.and IntKind.i64 (c / 2 ^ k) 1 == 1) = cbit c k) := rfl
        have hk9 : k ≤ 9 := Nat.le_trans hk (ccut_le b)
        go_wp2_with (at_builtin; refine append_bl1 rfl _ _ rfl w.heap.size _ _ rfl (HI.out.alloc _) wr.heap.size (bits BinOp.and IntKind.i64 (c / 2 ^ k) 1 == 1) rfl ?c1 ?c2 ?c3 ?c4)
        case c1 => exact (Row.new wr _ [_]).cell 0 rfl
        case c2 => rw [fbits_len]; omega
        case c3 => have := HO.out.size; simp; omega
        case c4 =>
          intro v' w3 hi2 ho2 hb2
          have HO4 : Hid (Only [] w w3) := by
            exact (HO.out.alloc _).trans ho2 (fun z hz => .inr (HI.out.own z (own_mem hz)).1)
          have HI4 : Hid (Bls w3 w.heap.size v' (fbits c (k + 1))) := by
            show Bls _ _ _ _
            rw [fbits_succ, ← HBT.out]; exact hi2
          clear hi2 ho2 hb2 HBT
          go_wp2_with fail
          exact ⟨⟨k + 1, by omega, by go_num, HI4.out, HO4.out⟩, by simp [intOf]; omega⟩
      · have hkc : k = ccut b := by unfold ccut at hk ⊢; omega
        have HE : Hid (Bls wr w.heap.size (.slice va k vc) (fieldsL b c)) := by show Bls _ _ _ (fbits c (ccut b)); rw [← hkc]; exact HI.out
        clear hkc
        go_wp2_with fail
        exact hR.out _ _ ⟨_, rfl, HE.out, HO.out⟩
    · have hkc : k = ccut b := by unfold ccut at hk ⊢; omega
      have HE : Hid (Bls wr w.heap.size (.slice va k vc) (fieldsL b c)) := by show Bls _ _ _ (fbits c (ccut b)); rw [← hkc]; exact HI.out
      clear hkc
      go_wp2_with fail
      exact hR.out _ _ ⟨_, rfl, HE.out, HO.out⟩
theorem cints_same (w : World) (v1 v2 : Value) (l : List Int) (h1 : Read w v1 l) (h2 : Read w v2 l) (hl : l.length ≤ 1000) :
    Calls Tryz.prog 61 #[v1, v2] w (fun e w' => e = .returned (.bool true) ∧ Only [] w w') := by
  refine calls_abs fun R hR => ?_
  obtain ⟨a1, c1, rfl⟩ := h1.len
  obtain ⟨a2, c2, rfl⟩ := h2.len
  have H1 := Lib.hid h1
  have H2 := Lib.hid h2
  obtain ⟨n, hn⟩ : ∃ n, n = l.length := ⟨_, rfl⟩
  rw [← hn] at hl H1 H2 ⊢
  have HN := Lib.hid hn
  clear h1 h2 hn
  go_enter Tryz.func61, Tryz.ntmps61
  go_wp2_with fail
  go_loopw [5] (fun iv wr => ∃ k m : Nat, k ≤ n ∧ iv = .int .i64 k ∧ wr = w.drewN m) (fun iv _ => n - (intOf iv).toNat)
  case atStart => exact ⟨0, 0, by omega, rfl, rfl⟩
  case round =>
    obtain ⟨k, m, hk, rfl, rfl⟩ := hrel
    by_cases hlt : k < n
    · have hlt' : k < l.length := by have := HN.out; omega
      rcases H1.out with ⟨b1, o1, d1, f1, g1⟩ | ⟨oa, d, f1, g1⟩
      rotate_left
      · rw [g1] at hlt'; simp at hlt'
      rcases H2.out with ⟨b2, o2, d2, f2, g2⟩ | ⟨oa, d, f2, g2⟩
      rotate_left
      · rw [g2] at hlt'; simp at hlt'
      have e1 : a1 = some ⟨b1, o1, none⟩ := by cases f1; rfl
      have e2 : a2 = some ⟨b2, o2, none⟩ := by cases f2; rfl
      subst e1 e2
      have k1 := g1 k hlt'
      have k2 := g2 k hlt'
      have hb1 : (0 : Int) ≤ k := by omega
      have hb2 : (k : Int) < n := by omega
      generalize gI l k = z at *
      clear g1 g2 f1 f2
      go_wp2_with fail
      go_quiet (fail)
      go_wp2_with fail
      exact ⟨⟨k + 1, _, by omega, by go_num, rfl⟩, by simp [intOf]; omega⟩
    · obtain rfl : k = n := by omega
      have HO : Hid (Only [] w (w.drewN m)) := (Only.refl _ _).drewN m
      go_wp2_with fail
      exact hR.out _ _ ⟨rfl, HO.out⟩
def P2 (b g : Nat) (c c' : Co) (tl : List Asn) : List Asn := CoA b c :: GoA g c' :: tl
end Go.Proofs.YthflghdaejbdkaaGreat
namespace Go.Proofs.YthflghdaejbdkaaGreat
set_option linter.unusedVariables false
set_option maxRecDepth 100000
structure Pm where
  slots : List (List Int)
  refs : List (List Bool)
  ids : List Nat
def Md.pm (d : Md) : Pm := ⟨d.slots, d.refs, d.keeps.map (fun p => p.2)⟩
def Pm.sl (p : Pm) (i : Nat) : List Int := p.slots[i]?.getD []
def Pm.rf (p : Pm) (i : Nat) : List Bool := p.refs[i]?.getD []
def Pm.made (p : Pm) (l : List Bool) : Pm := ⟨(if p.slots = [] then [[]] else p.slots) ++ [List.replicate l.length 0], (if p.slots = [] then [[]] else p.refs) ++ [l], p.ids ++ [if p.slots = [] then 1 else p.slots.length]⟩
def Pm.set (p : Pm) (i s : Nat) (v : Int) : Pm := { p with slots := p.slots.set i ((p.sl i).set s v) }
def Pm.keep (p : Pm) (j : Nat) : Pm := { p with ids := p.ids ++ [j] }
def Pm.place (p : Pm) (a b : Int) : Option (Nat × Nat) :=
  if p.ids.length = 0 then none
  else if (p.sl (p.ids[(a % (p.ids.length : Int)).toNat]?.getD 0)).length = 0 then none
  else some ((a % (p.ids.length : Int)).toNat, (b % ((p.sl (p.ids[(a % (p.ids.length : Int)).toNat]?.getD 0)).length : Int)).toNat)
def Pm.idAt (p : Pm) (k : Nat) : Nat := p.ids[k]?.getD 0
def Pm.store (p : Pm) (a b x : Int) : Pm := match p.place a b with
  | none => p
  | some (k, s) =>
    if gB (p.rf (p.idAt k)) s = false then p.set (p.idAt k) s (x.tmod 1000000)
    else if (x % ((p.ids.length : Int) + 1)).toNat = p.ids.length then p.set (p.idAt k) s 0
    else p.set (p.idAt k) s (p.idAt (x % ((p.ids.length : Int) + 1)).toNat)
def Pm.load (p : Pm) (a b : Int) : Pm := match p.place a b with
  | none => p
  | some (k, s) =>
    if gB (p.rf (p.idAt k)) s = true ∧ gI (p.sl (p.idAt k)) s ≠ 0 ∧ p.ids.length < 30 then p.keep (gI (p.sl (p.idAt k)) s).toNat else p
def Pm.act (p : Pm) (o a b x : Int) : Pm :=
  if o = 0 then (if p.ids.length < 30 ∧ 0 ≤ a ∧ a < 10 ∧ (fieldsL b x).length ≤ 7 then p.made (fieldsL b x) else p)
  else if o = 1 then (if p.ids.length < 30 ∧ 0 ≤ b ∧ b ≤ 48 ∧ (a = 3 ∨ a = 4) then p.made (List.replicate b.toNat (decide (a = 4))) else p)
  else if o = 2 then p.store a b x
  else if o = 7 then p.load a b
  else if o = 9 then (if p.ids.length = 0 then p else { p with ids := p.ids.take (a % (p.ids.length : Int)).toNat ++ p.ids.drop ((a % (p.ids.length : Int)).toNat + 1) })
  else p
def Pm.after (f : Nat → Nat → Int) : Nat → Pm
  | 0 => ⟨[], [], []⟩
  | k + 1 => (Pm.after f k).act (f k 0) (f k 1) (f k 2) (f k 3)
variable {d : Md} {K : Nat → Prop} {φ : Nat → Int} {c : Co}
theorem pm_sl (i : Nat) : d.pm.sl i = d.sl i := rfl
theorem pm_rf (i : Nat) : d.pm.rf i = d.rf i := rfl
theorem pm_len : d.pm.ids.length = d.keeps.length := by show (d.keeps.map _).length = _; rw [List.length_map]
theorem pm_made (h : Int) (l : List Bool) : (d.made h l).pm = d.pm.made l := by
  unfold Md.pm Pm.made Md.made
  simp only [List.map_append, List.map_cons, List.map_nil]
  rfl
theorem pm_store (i s : Nat) (v : Int) : (d.store i s v).pm = d.pm.set i s v := rfl
theorem keep_at {k : Nat} (hk : k < d.keeps.length) : ∃ h, d.keeps[k]? = some (h, d.pm.idAt k) := by
  refine ⟨(d.keeps[k]).1, ?_⟩
  have e : d.keeps[k]? = some d.keeps[k] := List.getElem?_eq_getElem hk
  have e2 : d.pm.idAt k = (d.keeps[k]).2 := by
    show ((d.keeps.map (fun p => p.2))[k]?).getD 0 = _
    rw [List.getElem?_map, e]
    rfl
  rw [e, e2]
theorem Sf.at (h : Sf d K φ c) {k : Nat} (hk : k < d.keeps.length) : d.keeps[k]? = some (φ (d.pm.idAt k), d.pm.idAt k) ∧ K (d.pm.idAt k) := by
  obtain ⟨x, hx⟩ := keep_at hk
  obtain ⟨h1, h2⟩ := h.kp _ (List.mem_of_getElem? hx)
  have h2 : x = φ (d.pm.idAt k) := h2
  rw [hx, h2]
  exact ⟨rfl, h1⟩
theorem place_some {p : Pm} {a b : Int} {k s : Nat} (h : p.place a b = some (k, s)) : k < p.ids.length ∧ s < (p.sl (p.idAt k)).length := by
  unfold Pm.place at h
  split at h
  · cases h
  split at h
  · cases h
  next h1 h2 =>
    cases h
    refine ⟨?_, ?_⟩
    · have := Int.emod_lt_of_pos a (b := (p.ids.length : Int)) (by omega)
      have := Int.emod_nonneg a (b := (p.ids.length : Int)) (by omega)
      omega
    · show _ < (p.sl (p.ids[_]?.getD 0)).length
      generalize (p.sl (p.ids[(a % (p.ids.length : Int)).toNat]?.getD 0)).length = z at *
      have := Int.emod_lt_of_pos b (b := (z : Int)) (by omega)
      have := Int.emod_nonneg b (b := (z : Int)) (by omega)
      omega
end Go.Proofs.YthflghdaejbdkaaGreat
namespace Go.Proofs.YthflghdaejbdkaaGreat
open Go.RowKit Go.Maps
set_option maxHeartbeats 12800000
set_option maxRecDepth 100000
set_option linter.unusedVariables false
def BlsA (v : Value) (l : List Bool) : Asn :=
  ⟨fun w S => Bls w 0 v l ∧ ∀ k, S k ↔ v.ownBlock = some k, fun h ho hd => ⟨h.1.onlyP ho (fun k hk x => hd k x ((h.2 k).2 hk)), h.2⟩, fun h hk => (h.1.own _ ((h.2 _).1 hk)).2⟩
section
variable {w0 w w' : World} {l tl : List Asn} {b g : Nat} {c c1 c2 : Co} {i : Nat}
theorem Fam.bls {v : Value} {m : List Bool} (h : Fam w0 w l) (i : Nat) (hi : l[i]? = some (BlsA v m)) : Bls w 0 v m := by
  obtain ⟨S, h1, _⟩ := h.get i hi
  exact h1.1
theorem Fam.addBls {v : Value} {m : List Bool} (h : Fam w0 w l) (ho : Only [] w w') (hi : Bls w' w.heap.size v m) : Fam w0 w' (l ++ [BlsA v m]) :=
  h.add ⟨ho, fun k => v.ownBlock = some k, ⟨hi.base (Nat.zero_le _), fun k => Iff.rfl⟩, fun k hk => (hi.own k hk).1⟩
end
end Go.Proofs.YthflghdaejbdkaaGreat
