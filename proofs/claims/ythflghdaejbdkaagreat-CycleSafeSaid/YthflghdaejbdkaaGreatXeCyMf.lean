/- Lemmas of this claim. -/
import Derived.Test.YthflghdaejbdkaaGreatXeCyGI
import Derived.Test.YthflghdaejbdkaaGreatXeReach
import Derived.Test.YthflghdaejbdkaaGreatXeCySh
namespace Go.Proofs.YthflghdaejbdkaaGreat
open Go.RowKit Go.Maps
set_option maxHeartbeats 6400000
set_option maxRecDepth 100000
set_option linter.unusedVariables false
theorem give_idle {c : Co} (hp : c.ph = 0) (n : Int) : c.give n = (0, c) := by unfold Co.give; rw [if_pos hp]
theorem newObject_idle {c : Co} (hp : c.ph = 0) : c.newObject 0 [] = ((c.m.M.newObject 0 []).1, (c.m.M.newObject 0 []).2.1, { c with m := c.m.put (c.m.M.newObject 0 []).2.2 }) := by
  unfold Co.newObject
  rw [if_neg (by simp), give_idle hp]
  show c.newObj 0 [] = _
  unfold Co.newObj
  rw [if_neg (by rw [bar_iff]; omega)]
theorem san_begin {c : Co} (hm : c.m = Mk.start sanM) (ht : c.t = Tb.new) (hp : c.ph = 0) (hr : c.rate = 0) (hg : c.pages = 2) (hs : c.sw = []) : c.begin [1] = (0, san3) := by
  have hbad : ¬ sanM.badRoot [1] := by
    rintro ⟨y, hy, _, h⟩
    have hy1 : y = 1 := by simpa using hy
    have := san_ob
    rw [← hy1, h] at this
    cases this
  unfold Co.begin
  rw [if_neg (by simp), if_neg (fun e => e hp), hm, if_neg (show ¬ (Mk.start sanM).M.badRoot [1] from hbad)]
  obtain ⟨m, t, ph, cr, rate, pages, sw, mv⟩ := c
  cases hm
  cases ht
  cases hr
  cases hg
  cases hs
  rfl
theorem san_finish (h : san3.Okc) : san3.finish = ((6 : Int), Co.costs 6 san3, 0, Co.steps 6 san3) := by
  have h6 := Co.fins_eq h san_steps.2.1 san_steps.1
  unfold Co.finish
  rw [if_neg (by show ¬ (1 : Nat) = 0; decide), ← h6]
  rfl
theorem csane_any (w : World) : Calls Tryz.prog 32 #[] w (fun e w' => e = .returned (.bool true) ∧ Only [] w w') := by
  refine calls_abs fun R hR => ?_
  have c1 := cnew_good w (Fam.nil w) 2 0 (by omega) (by omega) ⟨Int.le_refl 0, by decide⟩
  have K0 : Hid ((Co.new 2 0).Ok) := Co.Ok.new (by omega) (by omega) ⟨Int.le_refl 0, by decide⟩
  go_enter Tryz.func32, Tryz.ntmps32
  go_wp2_with fail
  refine c1.mono ?_
  rintro e w1 ⟨b, rfl, hf1⟩
  have F1 : Hid (Fam w w1 [CoA b (Co.new 2 0)]) := hf1
  have c2 := cnewObject_rep w1 F1.out (i := 0) rfl K0.out 0 none 0 0 [] rfl (by omega) (fun wx _ => .inl ⟨rfl, rfl⟩)
  have K1 := Lib.hid (K0.out.newObject 0 [])
  obtain ⟨d, hd⟩ : ∃ d, d = ((Co.new 2 0).newObject 0 []).2.2 := ⟨_, rfl⟩
  have HD : Hid (d = { Co.new 2 0 with m := (Co.new 2 0).m.put ((Hp.new 2).newObject 0 []).2.2 }) := by show _ = _; rw [hd, newObject_idle rfl]; rfl
  rw [← hd] at c2 K1
  rw [show ((Co.new 2 0).newObject 0 []).1 = 1 by rw [newObject_idle rfl]; exact san_facts.1] at c2
  clear c1 hf1 hd
  generalize ((Co.new 2 0).newObject 0 []).2.1 = e1 at *
  go_wp2_with fail
  refine c2.mono ?_
  rintro e w2 ⟨rfl, hf2⟩
  have F2 : Hid (Fam w w2 [CoA b d]) := hf2
  have hdp : d.ph = 0 := by rw [HD.out]; rfl
  have hdM : d.m.M = ((Hp.new 2).newObject 0 []).2.2 := by rw [HD.out]; rfl
  have c3 := cnewObject_rep w2 F2.out (i := 0) rfl K1.out 0 none 0 0 [] rfl (by omega) (fun wx _ => .inl ⟨rfl, rfl⟩)
  have K2 := Lib.hid (K1.out.newObject 0 [])
  obtain ⟨d2, hd2⟩ : ∃ d2, d2 = (d.newObject 0 []).2.2 := ⟨_, rfl⟩
  have HD2 : Hid (d2 = { d with m := d.m.put (d.m.M.newObject 0 []).2.2 }) := by show _ = _; rw [hd2, newObject_idle hdp]
  rw [← hd2] at c3 K2
  rw [show (d.newObject 0 []).1 = 2 by rw [newObject_idle hdp, hdM]; exact san_facts.2.2.1] at c3
  have HB : Hid (d2.begin [1] = (0, san3)) := by
    have hm : d2.m = Mk.start sanM := by rw [HD2.out]; show d.m.put _ = _; rw [hdM, HD.out]; rfl
    refine san_begin hm ?_ ?_ ?_ ?_ ?_ <;> (rw [HD2.out, HD.out]; rfl)
  clear c2 hf2 hd2 hdp hdM F1
  generalize (d.newObject 0 []).2.1 = e2 at *
  go_wp2_with fail
  refine c3.mono ?_
  rintro e w3 ⟨rfl, hf3⟩
  have F3 : Hid (Fam w w3 [CoA b d2]) := hf3
  have F4 : Hid (Fam w (w3.alloc (.cells #[.int .i64 1] 3)) [CoA b d2, RowA w3.heap.size 3 [.int .i64 1]]) := F3.out.addRow 3 [.int .i64 1]
  clear c3 hf3 F2
  have c4 := cbegin_rep _ F4.out (i := 0) rfl K2.out.k (some ⟨w3.heap.size, 0, none⟩) 1 1 [1] rfl (by omega) (fun y hy => by simp at hy; rw [hy]; exact wfI_mk (by decide)) (fun wx hx => .inl ⟨w3.heap.size, 0, 1, rfl, fun k hk => by
    have h0 : k = 0 := by simp at hk; omega
    subst h0
    exact (hx.row 1 rfl).cell 0 rfl⟩)
  rw [HB.out] at c4
  have K3 : Hid (san3.Ok) := by have := K2.out.begin [1]; rw [HB.out] at this; exact this
  go_wp2_with fail
  refine c4.mono ?_
  rintro e w5 ⟨rfl, hf5⟩
  have F5 : Hid (Fam w w5 [CoA b san3, RowA w3.heap.size 3 [.int .i64 1]]) := hf5
  have c5 := cfinish_rep w5 F5.out (i := 0) rfl K3.out.k
  rw [san_finish K3.out.k] at c5
  have hcl := Co.costs_le K3.out.k 6
  clear c4 hf5 F4 F3
  generalize Co.costs 6 san3 = cs at *
  go_wp2_with fail
  refine c5.mono ?_
  rintro e w6 ⟨rfl, hf6⟩
  have F6 : Hid (Fam w w6 [CoA b (Co.steps 6 san3), RowA w3.heap.size 3 [.int .i64 1]]) := hf6
  have HP6 : Hid ((Co.steps 6 san3).ph = 0) := san_steps.1
  have HH6 : Hid ((Co.steps 6 san3).m.M.handles = [1]) := san_steps.2.2
  generalize Co.steps 6 san3 = d6 at *
  have c6 := cheap_rep w6 F6.out (i := 0) rfl
  clear c5 hf6 F5
  go_wp2_with fail
  refine c6.mono ?_
  rintro e w7 ⟨q, rfl, ho7, hf7⟩
  have F7 : Hid (Fam w w7 [CoA b d6, RowA w3.heap.size 3 [.int .i64 1], PH q d6.m.M]) := hf7
  obtain ⟨hk7, L7, X7, hp7⟩ := F7.out.ph 2 rfl
  have c7 := handles_rep w7 hp7 hk7
  rw [HH6.out] at c7
  clear c6 hf7 ho7 F6 hk7 hp7
  go_wp2_with fail
  refine c7.mono ?_
  rintro e w8 ⟨v8, rfl, hi8, ho8⟩
  have F8 := Lib.hid (F7.out.only0 ho8)
  obtain ⟨va, vc, hv8⟩ := hi8.len
  subst hv8
  obtain ⟨vb, vo, rfl, h8⟩ := hi8.read.at (k := 0) (by simp)
  replace h8 : w8.cell? ⟨vb, vo, none⟩ = some (.int .i64 1) := by rw [Nat.add_zero] at h8; exact h8
  have c8 := cphaseA_rep w8 F8.out (i := 0) rfl
  rw [HP6.out] at c8
  clear c7 hi8 ho8 F7
  go_wp2_with fail
  refine c8.mono ?_
  rintro e _ ⟨rfl, rfl⟩
  have HE := Lib.hid F8.out.only
  clear c8 F8
  go_wp2_with fail
  exact hR.out _ _ ⟨rfl, HE.out⟩
end Go.Proofs.YthflghdaejbdkaaGreat
namespace Go.Proofs.YthflghdaejbdkaaGreat
open Go.RowKit Go.Maps
set_option maxHeartbeats 6400000
set_option maxRecDepth 100000
set_option linter.unusedVariables false
section
variable {w0 w : World} {l : List Asn} {b : Nat} {c c' : Co} {x : GX5} {i : Nat}
end
def cbit (c : Int) (i : Nat) : Bool := bits BinOp.and IntKind.i64 (c / 2 ^ i) 1 == 1
def ccut (b : Int) : Nat := min b.toNat 9
def fbits (c : Int) (k : Nat) : List Bool := (List.range k).map (cbit c)
def fieldsL (b c : Int) : List Bool := fbits c (ccut b)
theorem fbits_len (c : Int) (k : Nat) : (fbits c k).length = k := by simp [fbits]
theorem fbits_succ (c : Int) (k : Nat) : fbits c (k + 1) = fbits c k ++ [cbit c k] := by simp [fbits, List.range_succ]
theorem ccut_le (b : Int) : ccut b ≤ 9 := Nat.min_le_right _ _
theorem fields_any (w : World) (b c : Int) : Calls Tryz.prog 91 #[.int .i64 b, .int .i64 c] w (fun e w' => ∃ v, e = .returned v ∧ Bls w' w.heap.size v (fieldsL b c) ∧ Only [] w w') := by
  refine calls_abs fun R hR => ?_
  go_enter Tryz.func91, Tryz.ntmps91
  go_wp2_with fail
  go_loopw [5, 6] (fun vv iv wr => ∃ k : Nat, k ≤ ccut b ∧ iv = .int .i64 k ∧ Bls wr w.heap.size vv (fbits c k) ∧ Only [] w wr) (fun _ iv _ => ccut b - (intOf iv).toNat)
  case atStart => exact ⟨0, by omega, rfl, Bls.nil _ _, Only.refl _ _⟩
  case round =>
    obtain ⟨k, hk, rfl, hi, ho⟩ := hrel
    have HI := Lib.hid hi
    have HO := Lib.hid ho
    obtain ⟨va, vc, hvv⟩ := hi.len
    rw [fbits_len] at hvv
    subst hvv
    clear hi ho
    by_cases hlt : (k : Int) < b
    · by_cases hl9 : (k : Int) < 9
      · have hk0 : (0 : Int) ≤ k := by omega
        have hkc : k < ccut b := by unfold ccut; omega
        have HBT : Hid ((bits BinOp.and IntKind.i64 (c / 2 ^ k) 1 == 1) = cbit c k) := rfl
        have hk9 : k ≤ 9 := Nat.le_trans hk (ccut_le b)
        go_wp2_with (at_builtin; refine append_bl1 rfl _ _ rfl w.heap.size _ _ rfl (HI.out.alloc _) wr.heap.size (bits BinOp.and IntKind.i64 (c / 2 ^ k) 1 == 1) rfl ?c1 ?c2 ?c3 ?c4)
        case c1 => exact (Row.new wr _ [_]).cell 0 rfl
        case c2 => rw [fbits_len]; omega
        case c3 => have := HO.out.size; simp; omega
        case c4 =>
          intro v' w3 hi2 ho2 hb2
          have HO4 : Hid (Only [] w w3) := by
            exact (HO.out.alloc _).trans ho2 (fun z hz => .inr (HI.out.own z (own_mem hz)).1)
          have HI4 : Hid (Bls w3 w.heap.size v' (fbits c (k + 1))) := by
            show Bls _ _ _ _
            rw [fbits_succ, ← HBT.out]; exact hi2
          clear hi2 ho2 hb2 HBT
          go_wp2_with fail
          exact ⟨⟨k + 1, by omega, by go_num, HI4.out, HO4.out⟩, by simp [intOf]; omega⟩
      · have hkc : k = ccut b := by unfold ccut at hk ⊢; omega
        have HE : Hid (Bls wr w.heap.size (.slice va k vc) (fieldsL b c)) := by show Bls _ _ _ (fbits c (ccut b)); rw [← hkc]; exact HI.out
        clear hkc
        go_wp2_with fail
        exact hR.out _ _ ⟨_, rfl, HE.out, HO.out⟩
    · have hkc : k = ccut b := by unfold ccut at hk ⊢; omega
      have HE : Hid (Bls wr w.heap.size (.slice va k vc) (fieldsL b c)) := by show Bls _ _ _ (fbits c (ccut b)); rw [← hkc]; exact HI.out
      clear hkc
      go_wp2_with fail
      exact hR.out _ _ ⟨_, rfl, HE.out, HO.out⟩
def P2 (b g : Nat) (c c' : Co) (tl : List Asn) : List Asn := CoA b c :: GoA g c' :: tl
end Go.Proofs.YthflghdaejbdkaaGreat
namespace Go.Proofs.YthflghdaejbdkaaGreat
set_option linter.unusedVariables false
set_option maxRecDepth 100000
structure Pm where
  slots : List (List Int)
  refs : List (List Bool)
  ids : List Nat
def Md.pm (d : Md) : Pm := ⟨d.slots, d.refs, d.keeps.map (fun p => p.2)⟩
def Pm.sl (p : Pm) (i : Nat) : List Int := p.slots[i]?.getD []
def Pm.rf (p : Pm) (i : Nat) : List Bool := p.refs[i]?.getD []
def Pm.made (p : Pm) (l : List Bool) : Pm := ⟨(if p.slots = [] then [[]] else p.slots) ++ [List.replicate l.length 0], (if p.slots = [] then [[]] else p.refs) ++ [l], p.ids ++ [if p.slots = [] then 1 else p.slots.length]⟩
def Pm.set (p : Pm) (i s : Nat) (v : Int) : Pm := { p with slots := p.slots.set i ((p.sl i).set s v) }
def Pm.keep (p : Pm) (j : Nat) : Pm := { p with ids := p.ids ++ [j] }
def Pm.place (p : Pm) (a b : Int) : Option (Nat × Nat) :=
  if p.ids.length = 0 then none
  else if (p.sl (p.ids[(a % (p.ids.length : Int)).toNat]?.getD 0)).length = 0 then none
  else some ((a % (p.ids.length : Int)).toNat, (b % ((p.sl (p.ids[(a % (p.ids.length : Int)).toNat]?.getD 0)).length : Int)).toNat)
def Pm.idAt (p : Pm) (k : Nat) : Nat := p.ids[k]?.getD 0
def Pm.store (p : Pm) (a b x : Int) : Pm := match p.place a b with
  | none => p
  | some (k, s) =>
    if gB (p.rf (p.idAt k)) s = false then p.set (p.idAt k) s (x.tmod 1000000)
    else if (x % ((p.ids.length : Int) + 1)).toNat = p.ids.length then p.set (p.idAt k) s 0
    else p.set (p.idAt k) s (p.idAt (x % ((p.ids.length : Int) + 1)).toNat)
def Pm.load (p : Pm) (a b : Int) : Pm := match p.place a b with
  | none => p
  | some (k, s) =>
    if gB (p.rf (p.idAt k)) s = true ∧ gI (p.sl (p.idAt k)) s ≠ 0 ∧ p.ids.length < 30 then p.keep (gI (p.sl (p.idAt k)) s).toNat else p
def Pm.act (p : Pm) (o a b x : Int) : Pm :=
  if o = 0 then (if p.ids.length < 30 ∧ 0 ≤ a ∧ a < 10 ∧ (fieldsL b x).length ≤ 7 then p.made (fieldsL b x) else p)
  else if o = 1 then (if p.ids.length < 30 ∧ 0 ≤ b ∧ b ≤ 48 ∧ (a = 3 ∨ a = 4) then p.made (List.replicate b.toNat (decide (a = 4))) else p)
  else if o = 2 then p.store a b x
  else if o = 7 then p.load a b
  else if o = 9 then (if p.ids.length = 0 then p else { p with ids := p.ids.take (a % (p.ids.length : Int)).toNat ++ p.ids.drop ((a % (p.ids.length : Int)).toNat + 1) })
  else p
def Pm.after (f : Nat → Nat → Int) : Nat → Pm
  | 0 => ⟨[], [], []⟩
  | k + 1 => (Pm.after f k).act (f k 0) (f k 1) (f k 2) (f k 3)
variable {d : Md} {K : Nat → Prop} {φ : Nat → Int} {c : Co}
theorem pm_sl (i : Nat) : d.pm.sl i = d.sl i := rfl
theorem pm_rf (i : Nat) : d.pm.rf i = d.rf i := rfl
theorem pm_len : d.pm.ids.length = d.keeps.length := by show (d.keeps.map _).length = _; rw [List.length_map]
theorem pm_made (h : Int) (l : List Bool) : (d.made h l).pm = d.pm.made l := by
  unfold Md.pm Pm.made Md.made
  simp only [List.map_append, List.map_cons, List.map_nil]
  rfl
theorem pm_store (i s : Nat) (v : Int) : (d.store i s v).pm = d.pm.set i s v := rfl
theorem keep_at {k : Nat} (hk : k < d.keeps.length) : ∃ h, d.keeps[k]? = some (h, d.pm.idAt k) := by
  refine ⟨(d.keeps[k]).1, ?_⟩
  have e : d.keeps[k]? = some d.keeps[k] := List.getElem?_eq_getElem hk
  have e2 : d.pm.idAt k = (d.keeps[k]).2 := by
    show ((d.keeps.map (fun p => p.2))[k]?).getD 0 = _
    rw [List.getElem?_map, e]
    rfl
  rw [e, e2]
theorem Sf.at (h : Sf d K φ c) {k : Nat} (hk : k < d.keeps.length) : d.keeps[k]? = some (φ (d.pm.idAt k), d.pm.idAt k) ∧ K (d.pm.idAt k) := by
  obtain ⟨x, hx⟩ := keep_at hk
  obtain ⟨h1, h2⟩ := h.kp _ (List.mem_of_getElem? hx)
  have h2 : x = φ (d.pm.idAt k) := h2
  rw [hx, h2]
  exact ⟨rfl, h1⟩
theorem place_some {p : Pm} {a b : Int} {k s : Nat} (h : p.place a b = some (k, s)) : k < p.ids.length ∧ s < (p.sl (p.idAt k)).length := by
  unfold Pm.place at h
  split at h
  · cases h
  split at h
  · cases h
  next h1 h2 =>
    cases h
    refine ⟨?_, ?_⟩
    · have := Int.emod_lt_of_pos a (b := (p.ids.length : Int)) (by omega)
      have := Int.emod_nonneg a (b := (p.ids.length : Int)) (by omega)
      omega
    · show _ < (p.sl (p.ids[_]?.getD 0)).length
      generalize (p.sl (p.ids[(a % (p.ids.length : Int)).toNat]?.getD 0)).length = z at *
      have := Int.emod_lt_of_pos b (b := (z : Int)) (by omega)
      have := Int.emod_nonneg b (b := (z : Int)) (by omega)
      omega
end Go.Proofs.YthflghdaejbdkaaGreat
namespace Go.Proofs.YthflghdaejbdkaaGreat
open Go.RowKit Go.Maps
set_option maxHeartbeats 12800000
set_option maxRecDepth 100000
set_option linter.unusedVariables false
def BlsA (v : Value) (l : List Bool) : Asn :=
  ⟨fun w S => Bls w 0 v l ∧ ∀ k, S k ↔ v.ownBlock = some k, fun h ho hd => ⟨h.1.onlyP ho (fun k hk x => hd k x ((h.2 k).2 hk)), h.2⟩, fun h hk => (h.1.own _ ((h.2 _).1 hk)).2⟩
section
variable {w0 w w' : World} {l tl : List Asn} {b g : Nat} {c c1 c2 : Co} {i : Nat}
theorem Fam.bls {v : Value} {m : List Bool} (h : Fam w0 w l) (i : Nat) (hi : l[i]? = some (BlsA v m)) : Bls w 0 v m := by
  obtain ⟨S, h1, _⟩ := h.get i hi
  exact h1.1
theorem Fam.addBls {v : Value} {m : List Bool} (h : Fam w0 w l) (ho : Only [] w w') (hi : Bls w' w.heap.size v m) : Fam w0 w' (l ++ [BlsA v m]) :=
  h.add ⟨ho, fun k => v.ownBlock = some k, ⟨hi.base (Nat.zero_le _), fun k => Iff.rfl⟩, fun k hk => (hi.own k hk).1⟩
end
end Go.Proofs.YthflghdaejbdkaaGreat
namespace Go.Proofs.YthflghdaejbdkaaGreat
open Go.RowKit Go.Maps
set_option maxHeartbeats 6400000
set_option maxRecDepth 100000
set_option linter.unusedVariables false
theorem infoIs : (Tryz.prog.info? 23).map (fun i => (i.zero, i.size, i.bytes)) = some (some (.slice none 0 0), 1, 24) := by kernel_rfl
theorem infoBs : (Tryz.prog.info? 50).map (fun i => (i.zero, i.size, i.bytes)) = some (some (.slice none 0 0), 1, 24) := by kernel_rfl
theorem infoKe : (Tryz.prog.info? 140).map (fun i => (i.zero, i.size, i.bytes)) = some (some (.agg #[.int .i64 0, .int .i64 0]), 2, 16) := by kernel_rfl
def ValA (T : Nat) (v : Value) (l : List Value) : Asn :=
  ⟨fun w S => w.ownsRow 0 T 1 v l.length l ∧ ∀ k, S k ↔ v.ownBlock = some k, fun h ho hd => by
    refine ⟨?_, h.2⟩
    refine ⟨h.1.1, ?_⟩
    rcases h.1.2 with h2 | ⟨g, cap, cur, hv, hb, hh, r⟩
    · exact .inl h2
    · exact .inr ⟨g, cap, cur, hv, hb, by rw [ho.block g (Array.getElem?_eq_some_iff.1 hh).1 (fun x => hd g x ((h.2 g).2 (by rw [hv]; rfl)))]; exact hh, r⟩, fun h hk => (World.ownsRow.lt h.1 _ ((h.2 _).1 hk)).2⟩
def keC (l : List (Int × Nat)) : List Value := l.flatMap (fun p => [.int .i64 p.1, .int .i64 (p.2 : Int)])
theorem keC_len (l : List (Int × Nat)) : (keC l).length = l.length * 2 := by
  induction l with
  | nil => rfl
  | cons p l ih =>
    unfold keC at ih ⊢
    rw [List.flatMap_cons, List.length_append, ih]
    show 2 + l.length * 2 = (l.length + 1) * 2
    omega
def KeA (v : Value) (l : List (Int × Nat)) : Asn :=
  ⟨fun w S => w.ownsRow 0 140 2 v l.length (keC l) ∧ ∀ k, S k ↔ v.ownBlock = some k, fun h ho hd => by
    refine ⟨?_, h.2⟩
    refine ⟨h.1.1, ?_⟩
    rcases h.1.2 with h2 | ⟨g, cap, cur, hv, hb, hh, r⟩
    · exact .inl h2
    · exact .inr ⟨g, cap, cur, hv, hb, by rw [ho.block g (Array.getElem?_eq_some_iff.1 hh).1 (fun x => hd g x ((h.2 g).2 (by rw [hv]; rfl)))]; exact hh, r⟩, fun h hk => (World.ownsRow.lt h.1 _ ((h.2 _).1 hk)).2⟩
theorem append_is1 {w : World} {ops : Array Oper} {rest : List Oper} {o : Oper} {a : Act} {Q : Exit → Act → World → Prop} (hgd : o.guard = none) (s x : Operand)
    (ho : o.op = .call { callee := .builtin .append, args := #[s, x], argTypes := #[65, 65] })
    (v : Value) (l : List Value) (hs : a.eval s = v) (hown : w.ownsRow 0 23 1 v l.length l)
    (b : Nat) (y : Value) (hy : y.oneCell' = true) (hx : a.eval x = .slice (some ⟨b, 0, none⟩) 1 1) (hnews : w.cell? ⟨b, 0, none⟩ = some y) (hbytes : l.length ≤ 1000000)
    (h : ∀ v' w', w'.ownsRow 0 23 1 v' (l ++ [y]).length (l ++ [y]) → Only v.ownBlock.toList w w' → (v'.ownBlock = v.ownBlock ∨ v'.ownBlock = some w.heap.size) → wpList Tryz.prog ops Q rest (a.put o.dst v') w') : wpList Tryz.prog ops Q (o :: rest) a w := by
  obtain ⟨i0, hi, hz0, hz1, hz2⟩ := info_parts infoIs
  refine wpList_append_own2 hgd s x 65 ho 0 23 i0 _ 1 24 Tryz.underlying65 hi hz0 hz1 hz2 rfl (by decide) v l.length _ hs hown ⟨b, 0, none⟩ 1 1 [y] hx rfl
    (fun j u hu => ?_) (fun u hu => ?_) (by simp only [maxLen]; omega) (by omega) (Nat.zero_le _) (fun v' w' h1 h2 h3 h5 => h v' w' ?_ ?_ h5)
  · cases j with
    | zero => simp at hu; subst hu; exact hnews
    | succ j => simp at hu
  · simp at hu; subst hu; exact hy
  · rw [List.length_append]; exact h1
  · exact (Only.refl _ _).grown h2 (fun k hk => .inl (by rw [hk]; simp))
theorem append_bs1 {w : World} {ops : Array Oper} {rest : List Oper} {o : Oper} {a : Act} {Q : Exit → Act → World → Prop} (hgd : o.guard = none) (s x : Operand)
    (ho : o.op = .call { callee := .builtin .append, args := #[s, x], argTypes := #[66, 66] })
    (v : Value) (l : List Value) (hs : a.eval s = v) (hown : w.ownsRow 0 50 1 v l.length l)
    (b : Nat) (y : Value) (hy : y.oneCell' = true) (hx : a.eval x = .slice (some ⟨b, 0, none⟩) 1 1) (hnews : w.cell? ⟨b, 0, none⟩ = some y) (hbytes : l.length ≤ 1000000)
    (h : ∀ v' w', w'.ownsRow 0 50 1 v' (l ++ [y]).length (l ++ [y]) → Only v.ownBlock.toList w w' → (v'.ownBlock = v.ownBlock ∨ v'.ownBlock = some w.heap.size) → wpList Tryz.prog ops Q rest (a.put o.dst v') w') : wpList Tryz.prog ops Q (o :: rest) a w := by
  obtain ⟨i0, hi, hz0, hz1, hz2⟩ := info_parts infoBs
  refine wpList_append_own2 hgd s x 66 ho 0 50 i0 _ 1 24 Tryz.underlying66 hi hz0 hz1 hz2 rfl (by decide) v l.length _ hs hown ⟨b, 0, none⟩ 1 1 [y] hx rfl
    (fun j u hu => ?_) (fun u hu => ?_) (by simp only [maxLen]; omega) (by omega) (Nat.zero_le _) (fun v' w' h1 h2 h3 h5 => h v' w' ?_ ?_ h5)
  · cases j with
    | zero => simp at hu; subst hu; exact hnews
    | succ j => simp at hu
  · simp at hu; subst hu; exact hy
  · rw [List.length_append]; exact h1
  · exact (Only.refl _ _).grown h2 (fun k hk => .inl (by rw [hk]; simp))
theorem append_ke {w : World} {ops : Array Oper} {rest : List Oper} {o : Oper} {a : Act} {Q : Exit → Act → World → Prop} (hgd : o.guard = none) (s x : Operand)
    (ho : o.op = .call { callee := .builtin .append, args := #[s, x], argTypes := #[67, 67] })
    (v : Value) (l : List (Int × Nat)) (hs : a.eval s = v) (hown : w.ownsRow 0 140 2 v l.length (keC l))
    (ad : Addr) (m c : Nat) (news : List (Int × Nat)) (hm : news.length = m) (hx : a.eval x = .slice (some ad) m c) (hnews : ∀ j u, (keC news)[j]? = some u → w.cell? (ad.add j) = some u) (hbytes : l.length + m ≤ 1000000)
    (h : ∀ v' w', w'.ownsRow 0 140 2 v' (l ++ news).length (keC (l ++ news)) → Only v.ownBlock.toList w w' → (v'.ownBlock = v.ownBlock ∨ v'.ownBlock = some w.heap.size) → wpList Tryz.prog ops Q rest (a.put o.dst v') w') : wpList Tryz.prog ops Q (o :: rest) a w := by
  obtain ⟨i0, hi, hz0, hz1, hz2⟩ := info_parts infoKe
  refine wpList_append_own2 hgd s x 67 ho 0 140 i0 _ 2 16 Tryz.underlying67 hi hz0 hz1 hz2 rfl (by decide) v l.length _ hs hown ad m c (keC news) hx (by rw [keC_len, hm])
    hnews (fun u hu => ?_) (by simp only [maxLen]; omega) (by omega) (Nat.zero_le _) (fun v' w' h1 h2 h3 h5 => h v' w' ?_ ?_ h5)
  · unfold keC at hu
    rw [List.mem_flatMap] at hu
    obtain ⟨p, _, hu⟩ := hu
    simp at hu
    rcases hu with rfl | rfl <;> rfl
  · have : keC (l ++ news) = keC l ++ keC news := by unfold keC; rw [List.flatMap_append]
    rw [List.length_append, hm, this]
    exact h1
  · exact (Only.refl _ _).grown h2 (fun k hk => .inl (by rw [hk]; simp))
end Go.Proofs.YthflghdaejbdkaaGreat
namespace Go.Proofs.YthflghdaejbdkaaGreat
open Go.RowKit Go.Maps
set_option maxHeartbeats 6400000
set_option maxRecDepth 100000
set_option linter.unusedVariables false
def SlA (ss : List Value) (ls : List (List Int)) : Asn := Some1 (fun _ : Unit => ss.length = ls.length) (fun _ => List.zipWith IntsA ss ls)
def RfA (rs : List Value) (ls : List (List Bool)) : Asn := Some1 (fun _ : Unit => rs.length = ls.length) (fun _ => List.zipWith BlsA rs ls)
structure MdX where
  sv : Value
  rv : Value
  kv : Value
  ss : List Value
  rs : List Value
def Mdl (mb : Nat) (d : Md) (x : MdX) : List Asn :=
  [RowA mb 69 [x.sv, x.rv, x.kv, .bool d.lost], ValA 23 x.sv x.ss, ValA 50 x.rv x.rs, KeA x.kv d.keeps, SlA x.ss d.slots, RfA x.rs d.refs]
def MdA (mb : Nat) (d : Md) : Asn := Some1 (fun _ : MdX => True) (Mdl mb d)
section
variable {w0 w : World} {l : List Asn} {mb i : Nat} {d d' : Md} {x : MdX}
theorem MdA.open (h : Fam w0 w l) (hi : l[i]? = some (MdA mb d)) : ∃ x : MdX, Fam w0 w (Mdl mb d x ++ l.set i NoA) := by
  obtain ⟨x, _, h2⟩ := h.open1 hi
  exact ⟨x, h2⟩
theorem MdA.close (x : MdX) (h : Fam w0 w (Mdl mb d x ++ l.set i NoA)) (hi : i < l.length) : Fam w0 w (l.set i (MdA mb d)) := by
  have := h.close1 (P := fun _ : MdX => True) (F := Mdl mb d) x trivial rfl (get_NoA hi)
  rwa [set_NoA] at this
theorem SlA.open (h : Fam w0 w l) {ss : List Value} {ls : List (List Int)} (hi : l[i]? = some (SlA ss ls)) : ss.length = ls.length ∧ Fam w0 w (List.zipWith IntsA ss ls ++ l.set i NoA) := by
  obtain ⟨_, h1, h2⟩ := h.open1 hi
  exact ⟨h1, h2⟩
theorem SlA.close {ss : List Value} {ls : List (List Int)} (h1 : ss.length = ls.length) (h : Fam w0 w (List.zipWith IntsA ss ls ++ l.set i NoA)) (hi : i < l.length) : Fam w0 w (l.set i (SlA ss ls)) := by
  have := h.close1 (P := fun _ : Unit => ss.length = ls.length) (F := fun _ => List.zipWith IntsA ss ls) () h1 rfl (get_NoA hi)
  rwa [set_NoA] at this
theorem RfA.open (h : Fam w0 w l) {rs : List Value} {ls : List (List Bool)} (hi : l[i]? = some (RfA rs ls)) : rs.length = ls.length ∧ Fam w0 w (List.zipWith BlsA rs ls ++ l.set i NoA) := by
  obtain ⟨_, h1, h2⟩ := h.open1 hi
  exact ⟨h1, h2⟩
theorem RfA.close {rs : List Value} {ls : List (List Bool)} (h1 : rs.length = ls.length) (h : Fam w0 w (List.zipWith BlsA rs ls ++ l.set i NoA)) (hi : i < l.length) : Fam w0 w (l.set i (RfA rs ls)) := by
  have := h.close1 (P := fun _ : Unit => rs.length = ls.length) (F := fun _ => List.zipWith BlsA rs ls) () h1 rfl (get_NoA hi)
  rwa [set_NoA] at this
theorem Mdl.cells (h : Fam w0 w (Mdl mb d x ++ l)) : w.cell? ⟨mb, 0, none⟩ = some x.sv ∧ w.cell? ⟨mb, 1, none⟩ = some x.rv ∧ w.cell? ⟨mb, 2, none⟩ = some x.kv ∧ w.cell? ⟨mb, 3, none⟩ = some (.bool d.lost) ∧ ∀ k, w.frozen? ⟨mb, k, none⟩ = false := by
  have r := h.row 0 rfl
  exact ⟨r.cell 0 rfl, r.cell 1 rfl, r.cell 2 rfl, r.cell 3 rfl, fun k => r.free k⟩
theorem Mdl.slots (h : Fam w0 w (Mdl mb d x ++ l)) {j : Nat} (hj : j < d.slots.length) : ∃ v, x.ss[j]? = some v ∧ Ints w 0 v (d.sl j) := by
  obtain ⟨h1, h2⟩ := SlA.open h (i := 4) (ss := x.ss) (ls := d.slots) rfl
  have e1 : x.ss[j]? = some (x.ss[j]'(by omega)) := List.getElem?_eq_getElem (by omega)
  have e2 : d.slots[j]? = some (d.slots[j]) := List.getElem?_eq_getElem hj
  have e3 : d.sl j = d.slots[j] := by unfold Md.sl; rw [e2]; rfl
  refine ⟨_, e1, ?_⟩
  rw [e3]
  refine h2.ints j ?_
  rw [List.getElem?_append_left (by rw [List.length_zipWith]; omega), List.getElem?_zipWith, e1, e2]
theorem Mdl.flags (h : Fam w0 w (Mdl mb d x ++ l)) {j : Nat} (hj : j < d.refs.length) : ∃ v, x.rs[j]? = some v ∧ Bls w 0 v (d.rf j) := by
  obtain ⟨h1, h2⟩ := RfA.open h (i := 5) (rs := x.rs) (ls := d.refs) rfl
  have e1 : x.rs[j]? = some (x.rs[j]'(by omega)) := List.getElem?_eq_getElem (by omega)
  have e2 : d.refs[j]? = some (d.refs[j]) := List.getElem?_eq_getElem hj
  have e3 : d.rf j = d.refs[j] := by unfold Md.rf; rw [e2]; rfl
  refine ⟨_, e1, ?_⟩
  rw [e3]
  refine h2.bls j ?_
  rw [List.getElem?_append_left (by rw [List.length_zipWith]; omega), List.getElem?_zipWith, e1, e2]
end
end Go.Proofs.YthflghdaejbdkaaGreat
namespace Go.Proofs.YthflghdaejbdkaaGreat
open Go.RowKit Go.Maps
set_option maxHeartbeats 6400000
set_option maxRecDepth 100000
set_option linter.unusedVariables false
section
variable {w w' : World} {T n : Nat} {v : Value} {l : List (Int × Nat)} {vl : List Value}
theorem orow_len {s : Nat} (h : w.ownsRow 0 T s v n vl) : ∃ a cap, v = .slice a n cap := by
  rcases h.2 with ⟨h1, h2⟩ | ⟨g, cap, cur, hv, _⟩
  · exact ⟨none, 0, by rw [h1, h2]⟩
  · exact ⟨_, cap, hv⟩
theorem orow_form {s : Nat} (h : w.ownsRow 0 T s v n vl) (hn : n ≠ 0) : ∃ g cap, v = .slice (some ⟨g, 0, none⟩) n cap ∧ n ≤ cap := by
  rcases h.2 with ⟨h1, h2⟩ | ⟨g, cap, cur, hv, hg, hh, hc, _⟩
  · exact absurd h2 hn
  · exact ⟨g, cap, hv, hc⟩
theorem keC_at (l : List (Int × Nat)) {i : Nat} {p : Int × Nat} (hp : l[i]? = some p) : (keC l)[i * 2]? = some (.int .i64 p.1) ∧ (keC l)[i * 2 + 1]? = some (.int .i64 (p.2 : Int)) := by
  induction l generalizing i with
  | nil => simp at hp
  | cons q l ih =>
    have e : keC (q :: l) = .int .i64 q.1 :: .int .i64 (q.2 : Int) :: keC l := rfl
    cases i with
    | zero =>
      have : q = p := by simpa using hp
      subst this
      exact ⟨rfl, rfl⟩
    | succ i =>
      have h2 := ih (i := i) (by simpa using hp)
      rw [e, show (i + 1) * 2 = i * 2 + 1 + 1 by omega]
      exact h2
theorem Ke.at (h : w.ownsRow 0 T 2 v l.length (keC l)) {i : Nat} {p : Int × Nat} (hp : l[i]? = some p) : ∃ g cap, v = .slice (some ⟨g, 0, none⟩) l.length cap ∧ l.length ≤ cap ∧ w.cell? ⟨g, i * 2, none⟩ = some (.int .i64 p.1) ∧ w.cell? ⟨g, i * 2 + 1, none⟩ = some (.int .i64 (p.2 : Int)) ∧ ∀ k, w.frozen? ⟨g, k, none⟩ = false := by
  have hi := (List.getElem?_eq_some_iff.1 hp).1
  obtain ⟨g, cap, rfl, hc⟩ := orow_form h (by omega)
  have h2 := keC_at l hp
  refine ⟨g, cap, rfl, hc, ?_, ?_, fun k => World.ownsRow.frozenAt h k⟩
  · rw [World.ownsRow.cellAt h _ (by omega)]; exact h2.1
  · rw [World.ownsRow.cellAt h _ (by omega)]; exact h2.2
theorem Va.at (h : w.ownsRow 0 T 1 v vl.length vl) {i : Nat} {p : Value} (hp : vl[i]? = some p) : ∃ g cap, v = .slice (some ⟨g, 0, none⟩) vl.length cap ∧ vl.length ≤ cap ∧ w.cell? ⟨g, i, none⟩ = some p ∧ ∀ k, w.frozen? ⟨g, k, none⟩ = false := by
  have hi := (List.getElem?_eq_some_iff.1 hp).1
  obtain ⟨g, cap, rfl, hc⟩ := orow_form h (by omega)
  refine ⟨g, cap, rfl, hc, ?_, fun k => World.ownsRow.frozenAt h k⟩
  rw [World.ownsRow.cellAt h _ (by omega)]; exact hp
end
section
variable {w0 w : World} {l : List Asn} {mb i : Nat} {d : Md} {x : MdX}
theorem Mdl.ke (h : Fam w0 w (Mdl mb d x ++ l)) : w.ownsRow 0 140 2 x.kv d.keeps.length (keC d.keeps) := by
  obtain ⟨S, h1, _⟩ := h.get 3 rfl
  exact h1.1
theorem Mdl.vs (h : Fam w0 w (Mdl mb d x ++ l)) : w.ownsRow 0 23 1 x.sv x.ss.length x.ss := by
  obtain ⟨S, h1, _⟩ := h.get 1 rfl
  exact h1.1
theorem Mdl.vr (h : Fam w0 w (Mdl mb d x ++ l)) : w.ownsRow 0 50 1 x.rv x.rs.length x.rs := by
  obtain ⟨S, h1, _⟩ := h.get 2 rfl
  exact h1.1
theorem held_any (w : World) (hf : Fam w0 w (Mdl mb d x ++ l)) (hl : d.keeps.length ≤ 1000) : Calls Tryz.prog 87 #[.pointer (some ⟨mb, 0, none⟩)] w (RetL w d.held) := by
  refine calls_abs fun R hR => ?_
  obtain ⟨ka, kc, hk⟩ := orow_len (Mdl.ke hf)
  have HF := Lib.hid hf
  have HK := Lib.hid hk
  obtain ⟨n, hn⟩ : ∃ n, n = d.keeps.length := ⟨_, rfl⟩
  rw [← hn] at HK hl
  have HN := Lib.hid hn
  have HHL : Hid (d.held.length = n) := by show d.held.length = n; unfold Md.held; rw [List.length_map, hn]
  clear hf hk hn
  go_enter Tryz.func87, Tryz.ntmps87
  go_wp2_with fail
  go_loopw [3, 4] (fun vv iv wr => ∃ k : Nat, k ≤ n ∧ iv = .int .i64 k ∧ Ints wr w.heap.size vv (d.held.take k) ∧ Only [] w wr) (fun _ iv _ => n - (intOf iv).toNat)
  case atStart => exact ⟨0, by omega, rfl, Ints.nil _ _, Only.refl _ _⟩
  case round =>
    obtain ⟨k, hk, rfl, hi, ho⟩ := hrel
    have HI := Lib.hid hi
    have HO := Lib.hid ho
    have hf := HF.out.only0 ho
    have c2 := (Mdl.cells hf).2.2.1
    rw [HK.out] at c2
    obtain ⟨va, vc, hvv⟩ := hi.len
    rw [List.length_take, HHL.out, Nat.min_eq_left hk] at hvv
    subst hvv
    by_cases hlt : k < n
    · have hk0 : (0 : Int) ≤ k := by omega
      have hlt1 : (k : Int) < n := by omega
      obtain ⟨p, hp⟩ : ∃ p, d.keeps[k]? = some p := ⟨_, List.getElem?_eq_getElem (by rw [← HN.out]; exact hlt)⟩
      obtain ⟨g, cap, hv, _, d0, _, _⟩ := Ke.at (Mdl.ke hf) hp
      rw [HK.out, ← HN.out] at hv
      cases hv
      have HNX : Hid (d.held.take (k + 1) = d.held.take k ++ [p.1]) := by
        show _ = _
        rw [List.take_add_one]
        congr 1
        unfold Md.held
        rw [List.getElem?_map, hp]
        rfl
      clear hi ho hf hp
      generalize p.1 = y at *
      go_wp2_with (at_builtin; refine append_int1 rfl _ _ rfl w.heap.size _ _ rfl (HI.out.alloc _) wr.heap.size y rfl ?c1 ?c2 ?c3 ?c4)
      case c1 => exact (Row.new wr _ [_]).cell 0 rfl
      case c2 => rw [List.length_take]; omega
      case c3 => have := HO.out.size; simp; omega
      case c4 =>
        intro v' w3 hi2 ho2 hb2
        have HO4 : Hid (Only [] w w3) := (HO.out.alloc _).trans ho2 (fun z hz => .inr (HI.out.own z (own_mem hz)).1)
        have HI4 : Hid (Ints w3 w.heap.size v' (d.held.take (k + 1))) := by
          show Ints _ _ _ _
          rw [HNX.out]
          exact hi2
        clear hi2 ho2 hb2 HNX c2 d0
        go_wp2_with fail
        exact ⟨⟨k + 1, by omega, by go_num, HI4.out, HO4.out⟩, by simp [intOf]; omega⟩
    · obtain rfl : k = n := by omega
      have HE : Hid (Ints wr w.heap.size (.slice va k vc) d.held) := by
        have h1 := HI.out
        rw [List.take_of_length_le (by rw [HHL.out]; exact Nat.le_refl _)] at h1
        exact h1
      clear hi ho hf
      go_wp2_with fail
      exact hR.out _ _ ⟨_, rfl, HE.out, HO.out⟩
end
end Go.Proofs.YthflghdaejbdkaaGreat
