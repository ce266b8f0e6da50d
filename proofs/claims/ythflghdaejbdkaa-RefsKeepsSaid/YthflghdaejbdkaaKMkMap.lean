/- Lemmas of this claim. -/
import Derived.Test.YthflghdaejbdkaaKMkMod
import Derived.Test.YthflghdaejbdkaaKOFam
namespace Go.Proofs.Ythflghdaejbdkaa
open Go.RowKit Go.Maps
set_option maxHeartbeats 3200000
set_option maxRecDepth 100000
set_option linter.unusedVariables false
def MapC (w : World) (mb : Nat) (col : Int → Int) : Prop :=
  ∃ D : DataW Unit, w.ownsMap Try.prog 3 (plainElem (H := Unit) Try.prog 3) mb 192 D ∧ (∀ k, wfI k → Maps.has D (.int .i64 k) = true → 1 ≤ k ∧ k ≤ 192) ∧ ∀ k, wfI k → D.atKey (.int .i64 k) (.lit (.int .i64 0)) = .lit (.int .i64 (col k))
theorem zeroInt (w : World) : (zeroValue 3).run Try.prog w = .ok (.int .i64 0) w := by kernel_rfl
theorem ownsMap_tight {w : World} {mb n : Nat} {D : DataW Unit} (hD : w.ownsMap Try.prog 3 (plainElem (H := Unit) Try.prog 3) mb n D) (hs : ∀ k, wfI k → Maps.has D (.int .i64 k) = true → 1 ≤ k ∧ k ≤ 192) : w.ownsMap Try.prog 3 (plainElem (H := Unit) Try.prog 3) mb 192 D := by
  have c := hD.canon keyedI
  have h1 := (nodup_len (keysD_nodup c) (l2 := (List.range 192).map fun (i : Nat) => Lit.int .i64 ((i : Int) + 1)) (fun x hx => by
    have hx' := (keysD_mem c x).1 hx
    obtain ⟨z, rfl, hz⟩ := ownsMap_key hD hx'
    have h2 := hs z hz hx'
    exact List.mem_map.2 ⟨z.toNat - 1, by simp; omega, by congr 1; omega⟩)).1
  rw [keysD_len c] at h1
  simp only [List.length_map, List.length_range] at h1
  obtain ⟨es, clock, hb, F, hn, rfl⟩ := hD
  have e1 : Maps.size (DataW.map ((es.toList.map (WideElems.rg Try.prog 3 (plainElem (H := Unit) Try.prog 3))).foldr DataW.insert [])) = es.size := by simp [Maps.size, length_sorted]
  exact ⟨es, clock, hb, F, by omega, rfl⟩
section
variable {w w' : World} {mb : Nat} {col : Int → Int}
theorem MapC.lt (h : MapC w mb col) : mb < w.heap.size := by obtain ⟨D, h, _⟩ := h; exact h.lt
theorem MapC.only {S : Nat → Prop} (h : MapC w mb col) (hg : OnlyP S w w') (hS : ¬ S mb) : MapC w' mb col := by
  obtain ⟨D, hD, hf⟩ := h
  have hlt := hD.lt
  obtain ⟨es, clock, hb, r⟩ := hD
  exact ⟨D, ⟨es, clock, (hg.block mb hlt hS).trans hb, r⟩, hf⟩
theorem MapC.look (h : MapC w mb col) {k : Int} (hk : wfI k) : (Instr.lookup 115 (.map (some mb)) (.int .i64 k) false).run Try.prog w = .ok (.int .i64 (col k)) w := by
  obtain ⟨D, hD, _, hf⟩ := h
  obtain ⟨c, h1, h2, _⟩ := hD.lookup_int keyedI Try.underlying115 Try.underlying3 (zeroInt w) (keyI hk)
  have h3 := hf k hk
  rw [h2] at h3
  simp at h3
  rw [h1, h3]
theorem MapC.made (w : World) : MapC (w.alloc (.map #[] 0)) w.heap.size (fun _ => 0) :=
  ⟨.map [], (World.ownsMap_made _ _ _ _).mono (Nat.zero_le _), fun k _ h => (by cases h), fun k _ => rfl⟩
theorem MapC.store (h : MapC w mb col) {k : Int} (hk : 1 ≤ k ∧ k ≤ 192) {v : Int} (hv : wfI v) : ∃ w', (Instr.mapUpdate 115 (.map (some mb)) (.int .i64 k) (.int .i64 v)).run Try.prog w = .ok () w' ∧ MapC w' mb (setI col k v) ∧ w.grownBy w' (some mb) := by
  obtain ⟨D, hD, hr, hf⟩ := h
  have hwk : wfI k := wfI_mk (by omega)
  obtain ⟨w', h1, h2, h3⟩ := hD.update keyedI Try.underlying115 (by decide) (keyI hwk) (plainElem_int Try.underlying3 hv)
  have hm := hD.isMap
  have hr2 : ∀ j, wfI j → Maps.has (D.put (.int .i64 k) (.lit (.int .i64 v))) (.int .i64 j) = true → 1 ≤ j ∧ j ≤ 192 := fun j hj h7 => by
    by_cases e : j = k
    · rw [e]; exact hk
    · rw [Maps.has_put_other (ne_key e)] at h7; exact hr j hj h7
  refine ⟨w', h1, ⟨_, ownsMap_tight h2 hr2, hr2, fun j hj => ?_⟩, h3⟩
  by_cases e : j = k
  · rw [e, setI_same]; exact Maps.atKey_put_same hm (isKeyI k hwk) _ _
  · rw [setI_other _ _ e, Maps.atKey_put_other (ne_key e)]; exact hf j hj
end
theorem Fam.turn {w0 w w' : World} {l : List Asn} {A A' : Asn} (h : Fam w0 w l) (i : Nat) (hi : l[i]? = some A) (hc : ∀ S, A.holds w S → ∃ S', A'.holds w' S' ∧ (∀ k, S' k → S k ∨ w.heap.size ≤ k) ∧ OnlyP S w w') : Fam w0 w' (l.set i A') := by
  obtain ⟨h0, S, h1, h2, h3⟩ := h
  have hil := (List.getElem?_eq_some_iff.1 hi).1
  obtain ⟨S', hA, hS, ho⟩ := hc (S i) (h1 i A hi)
  refine ⟨⟨ho.os.trans h0.os, ho.tape.trans h0.tape, ho.output.trans h0.output, Nat.le_trans h0.size ho.size, fun k hk hn => by
    rw [ho.block k (Nat.lt_of_lt_of_le hk h0.size) (fun x => by have := h3 i hil k x; omega)]
    exact h0.block k hk hn⟩, fun j => if j = i then S' else S j, fun j B hj => ?_, fun a b ha hb hab k => ?_, fun j hj k hk => ?_⟩
  · try simp only
    by_cases e : j = i
    · rw [if_pos e]
      rw [e, List.getElem?_set_self hil] at hj
      cases hj
      exact hA
    · rw [if_neg e]
      rw [List.getElem?_set_ne (fun x => e x.symm)] at hj
      exact B.keep (h1 j B hj) ho (h2 i j hil (List.getElem?_eq_some_iff.1 hj).1 (fun x => e x.symm))
  · rw [List.length_set] at ha hb
    try simp only
    intro h4 h5
    by_cases e1 : a = i
    · by_cases e2 : b = i
      · exact hab (e1.trans e2.symm)
      · rw [if_pos e1] at h4
        rw [if_neg e2] at h5
        rcases hS k h4 with h6 | h6
        · exact h2 i b hil hb (fun x => e2 x.symm) k h6 h5
        · have := (l[b]'hb).lt (h1 b _ (List.getElem?_eq_getElem hb)) h5; omega
    · by_cases e2 : b = i
      · rw [if_neg e1] at h4
        rw [if_pos e2] at h5
        rcases hS k h5 with h6 | h6
        · exact h2 i a hil ha (fun x => e1 x.symm) k h6 h4
        · have := (l[a]'ha).lt (h1 a _ (List.getElem?_eq_getElem ha)) h4; omega
      · rw [if_neg e1] at h4
        rw [if_neg e2] at h5
        exact h2 a b ha hb hab k h4 h5
  · rw [List.length_set] at hj
    try simp only at hk
    by_cases e : j = i
    · rw [if_pos e] at hk
      rcases hS k hk with h6 | h6
      · exact h3 i hil k h6
      · have := h0.size; omega
    · rw [if_neg e] at hk
      exact h3 j hj k hk
structure MkAt (w : World) (p hb mb : Nat) (v : Value) (col : Int → Int) (list : List Int) : Prop where
  row : ∃ T, Row w p T [.pointer (some ⟨hb, 0, none⟩), .map (some mb), v]
  map : MapC w mb col
  ints : Ints w 0 v list
  ne : p ≠ mb
  ne2 : ∀ g, v.ownBlock = some g → g ≠ p ∧ g ≠ mb
def MkA (p hb : Nat) (col : Int → Int) (list : List Int) : Asn :=
  ⟨fun w S => ∃ mb v, MkAt w p hb mb v col list ∧ ∀ k, S k ↔ (k = p ∨ k = mb ∨ v.ownBlock = some k),
   fun ⟨mb, v, h, hS⟩ ho hd => ⟨mb, v, ⟨h.row.imp fun T x => ho.row x (fun x => hd p x ((hS p).2 (.inl rfl))), h.map.only ho (fun x => hd mb x ((hS mb).2 (.inr (.inl rfl)))), h.ints.onlyP ho (fun k hk x => hd k x ((hS k).2 (.inr (.inr hk)))), h.ne, h.ne2⟩, hS⟩,
   fun ⟨mb, v, h, hS⟩ hk => by
     rcases (hS _).1 hk with e | e | e
     · obtain ⟨T, hr⟩ := h.row; rw [e]; exact hr.lt
     · rw [e]; exact h.map.lt
     · exact (h.ints.own _ e).2⟩
structure GkAt (w : World) (r q : Nat) (tg tc : Nat) (v : Value) (T : List Int) (col : Int → Int) (list : List Int) : Prop where
  row : ∃ U, Row w r U [.pointer (some ⟨q, 0, none⟩), .slice (some ⟨tg, 0, none⟩) 193 tc, v]
  tint : Ints w 0 (.slice (some ⟨tg, 0, none⟩) 193 tc) T
  tl : T.length = 193
  tv : ∀ k : Nat, k < 193 → gI T k = col k
  ints : Ints w 0 v list
  ne : r ≠ tg
  ne2 : ∀ g, v.ownBlock = some g → g ≠ r ∧ g ≠ tg
def GkA (r q : Nat) (col : Int → Int) (list : List Int) : Asn :=
  ⟨fun w S => ∃ tg tc v T, GkAt w r q tg tc v T col list ∧ ∀ k, S k ↔ (k = r ∨ k = tg ∨ v.ownBlock = some k),
   fun ⟨tg, tc, v, T, h, hS⟩ ho hd => ⟨tg, tc, v, T, ⟨h.row.imp fun U x => ho.row x (fun x => hd r x ((hS r).2 (.inl rfl))), h.tint.onlyP ho (fun k hk x => hd k x ((hS k).2 (.inr (.inl (by cases hk; rfl))))), h.tl, h.tv, h.ints.onlyP ho (fun k hk x => hd k x ((hS k).2 (.inr (.inr hk)))), h.ne, h.ne2⟩, hS⟩,
   fun ⟨tg, tc, v, T, h, hS⟩ hk => by
     rcases (hS _).1 hk with e | e | e
     · obtain ⟨U, hr⟩ := h.row; rw [e]; exact hr.lt
     · exact (h.tint.own _ (by rw [e]; rfl)).2
     · exact (h.ints.own _ e).2⟩
def ML (l : List Asn) (i j hb p : Nat) (m : Mk) : List Asn := (l.set i (PH hb m.M)).set j (MkA p hb m.col m.list)
def RL (l : List Asn) (i j q r : Nat) (m : Mk) : List Asn := (l.set i (GH q m.M)).set j (GkA r q m.col m.list)
structure Two2 (l : List Asn) (i j : Nat) : Prop where
  hi : i < l.length
  hj : j < l.length
  ne : i ≠ j
section
variable {l : List Asn} {i j hb p q r : Nat} {m : Mk}
theorem ML.heap (h : Two2 l i j) : (ML l i j hb p m)[i]? = some (PH hb m.M) := by
  unfold ML
  rw [List.getElem?_set_ne (Ne.symm h.ne), List.getElem?_set_self h.hi]
theorem ML.self (h : Two2 l i j) : (ML l i j hb p m)[j]? = some (MkA p hb m.col m.list) := by
  unfold ML
  rw [List.getElem?_set_self (by rw [List.length_set]; exact h.hj)]
theorem ML.turn (c : Int → Int) (t : List Int) : (ML l i j hb p m).set j (MkA p hb c t) = ML l i j hb p ⟨m.M, c, t⟩ := by
  unfold ML
  rw [List.set_set]
theorem RL.heap (h : Two2 l i j) : (RL l i j q r m)[i]? = some (GH q m.M) := by
  unfold RL
  rw [List.getElem?_set_ne (Ne.symm h.ne), List.getElem?_set_self h.hi]
theorem RL.self (h : Two2 l i j) : (RL l i j q r m)[j]? = some (GkA r q m.col m.list) := by
  unfold RL
  rw [List.getElem?_set_self (by rw [List.length_set]; exact h.hj)]
theorem RL.turn (c : Int → Int) (t : List Int) : (RL l i j q r m).set j (GkA r q c t) = RL l i j q r ⟨m.M, c, t⟩ := by
  unfold RL
  rw [List.set_set]
variable {w0 w w' : World}
theorem ML.mk (h : Two2 l i j) (hf : Fam w0 w (ML l i j hb p m)) : ∃ mb v, MkAt w p hb mb v m.col m.list := by
  obtain ⟨S, ⟨mb, v, h1, _⟩, _⟩ := hf.get j (ML.self h)
  exact ⟨mb, v, h1⟩
theorem MkAt.same {mb mb2 : Nat} {v v2 : Value} {c c2 : Int → Int} {t t2 : List Int} (h : MkAt w p hb mb v c t) (h2 : MkAt w p hb mb2 v2 c2 t2) : mb2 = mb ∧ v2 = v := by
  obtain ⟨U, h3⟩ := h.row
  obtain ⟨U2, h4⟩ := h2.row
  have e1 := (h3.cell 1 rfl).symm.trans (h4.cell 1 rfl)
  have e2 := (h3.cell 2 rfl).symm.trans (h4.cell 2 rfl)
  simp at e1 e2
  exact ⟨e1.symm, e2.symm⟩
theorem ML.mkT (h : Two2 l i j) (hf : Fam w0 w (ML l i j hb p m)) : ∃ mb v, MkAt w p hb mb v m.col m.list ∧ ∀ (w' : World) (mb' : Nat) (v' : Value) (c : Int → Int) (t : List Int), MkAt w' p hb mb' v' c t → (mb' = mb ∨ w.heap.size ≤ mb') →
    (∀ g, v'.ownBlock = some g → v.ownBlock = some g ∨ w.heap.size ≤ g) → OnlyP (fun k => k = p ∨ k = mb ∨ v.ownBlock = some k) w w' → Fam w0 w' (ML l i j hb p ⟨m.M, c, t⟩) := by
  obtain ⟨mb, v, hm⟩ := ML.mk h hf
  refine ⟨mb, v, hm, fun w' mb' v' c t h1 h2 h3 h4 => ?_⟩
  rw [← ML.turn c t]
  refine hf.turn j (ML.self h) fun S hS => ?_
  obtain ⟨mb2, v2, hm2, hS⟩ := hS
  obtain ⟨rfl, rfl⟩ := hm.same hm2
  refine ⟨fun k => k = p ∨ k = mb' ∨ v'.ownBlock = some k, ⟨mb', v', h1, fun k => Iff.rfl⟩, fun k hk => ?_, h4.mono (fun k hk => .inl ((hS k).2 hk))⟩
  rcases hk with hk | hk | hk
  · exact .inl ((hS k).2 (.inl hk))
  · rcases h2 with h2 | h2
    · exact .inl ((hS k).2 (.inr (.inl (hk.trans h2))))
    · exact .inr (by rw [hk]; exact h2)
  · rcases h3 k hk with h5 | h5
    · exact .inl ((hS k).2 (.inr (.inr h5)))
    · exact .inr h5
theorem GkAt.same {tg tg2 tc tc2 : Nat} {v v2 : Value} {T T2 : List Int} {c c2 : Int → Int} {t t2 : List Int} (h : GkAt w r q tg tc v T c t) (h2 : GkAt w r q tg2 tc2 v2 T2 c2 t2) : tg2 = tg ∧ v2 = v := by
  obtain ⟨U, h3⟩ := h.row
  obtain ⟨U2, h4⟩ := h2.row
  have e1 := (h3.cell 1 rfl).symm.trans (h4.cell 1 rfl)
  have e2 := (h3.cell 2 rfl).symm.trans (h4.cell 2 rfl)
  simp at e1 e2
  exact ⟨e1.1.symm, e2.symm⟩
theorem RL.mk (h : Two2 l i j) (hf : Fam w0 w (RL l i j q r m)) : ∃ tg tc v T, GkAt w r q tg tc v T m.col m.list := by
  obtain ⟨S, ⟨tg, tc, v, T, h1, _⟩, _⟩ := hf.get j (RL.self h)
  exact ⟨tg, tc, v, T, h1⟩
theorem RL.mkT (h : Two2 l i j) (hf : Fam w0 w (RL l i j q r m)) : ∃ tg tc v T, GkAt w r q tg tc v T m.col m.list ∧ ∀ (w' : World) (tg' tc' : Nat) (v' : Value) (T' : List Int) (c : Int → Int) (t : List Int), GkAt w' r q tg' tc' v' T' c t → (tg' = tg ∨ w.heap.size ≤ tg') →
    (∀ g, v'.ownBlock = some g → v.ownBlock = some g ∨ w.heap.size ≤ g) → OnlyP (fun k => k = r ∨ k = tg ∨ v.ownBlock = some k) w w' → Fam w0 w' (RL l i j q r ⟨m.M, c, t⟩) := by
  obtain ⟨tg, tc, v, T, hm⟩ := RL.mk h hf
  refine ⟨tg, tc, v, T, hm, fun w' tg' tc' v' T' c t h1 h2 h3 h4 => ?_⟩
  rw [← RL.turn c t]
  refine hf.turn j (RL.self h) fun S hS => ?_
  obtain ⟨tg2, tc2, v2, T2, hm2, hS⟩ := hS
  obtain ⟨rfl, rfl⟩ := hm.same hm2
  refine ⟨fun k => k = r ∨ k = tg' ∨ v'.ownBlock = some k, ⟨tg', tc', v', T', h1, fun k => Iff.rfl⟩, fun k hk => ?_, h4.mono (fun k hk => .inl ((hS k).2 hk))⟩
  rcases hk with hk | hk | hk
  · exact .inl ((hS k).2 (.inl hk))
  · rcases h2 with h2 | h2
    · exact .inl ((hS k).2 (.inr (.inl (hk.trans h2))))
    · exact .inr (by rw [hk]; exact h2)
  · rcases h3 k hk with h5 | h5
    · exact .inl ((hS k).2 (.inr (.inr h5)))
    · exact .inr h5
end
end Go.Proofs.Ythflghdaejbdkaa
