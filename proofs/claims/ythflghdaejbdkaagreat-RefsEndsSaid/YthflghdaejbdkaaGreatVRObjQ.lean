/- Lemmas of this claim. -/
import Derived.Test.YthflghdaejbdkaaGreatVOArgs
import Derived.Deep.RegionLaw
namespace Go.Proofs.YthflghdaejbdkaaGreat
open Go.RowKit Go.Maps
set_option maxHeartbeats 12800000
set_option maxRecDepth 100000
set_option linter.unusedVariables false
def gCells (F : Nat → Nat → Value) : Nat → List Value
  | 0 => []
  | m + 1 => gCells F m ++ [F m 0, F m 1, F m 2, F m 3, F m 4]
theorem gCells_succ (F : Nat → Nat → Value) (m : Nat) : gCells F (m + 1) = gCells F m ++ [F m 0, F m 1, F m 2, F m 3, F m 4] := rfl
theorem gCells_len (F : Nat → Nat → Value) (m : Nat) : (gCells F m).length = m * 5 := by
  induction m with
  | zero => rfl
  | succ m ih => unfold gCells; rw [List.length_append, ih]; simp; omega
theorem gCells_at {F : Nat → Nat → Value} {m i j : Nat} (hi : i < m) (hj : j < 5) : (gCells F m)[i * 5 + j]? = some (F i j) := by
  induction m with
  | zero => omega
  | succ m ih =>
    unfold gCells
    by_cases e : i = m
    · subst e
      rw [List.getElem?_append_right (by rw [gCells_len]; omega), gCells_len, show i * 5 + j - i * 5 = j by omega]
      match j, hj with
      | 0, _ => rfl
      | 1, _ => rfl
      | 2, _ => rfl
      | 3, _ => rfl
      | 4, _ => rfl
      | j + 5, hj => omega
    · rw [List.getElem?_append_left (by rw [gCells_len]; omega)]
      exact ih (by omega)
theorem gCells_congr {F G : Nat → Nat → Value} {m : Nat} (h : ∀ i, i < m → ∀ j, F i j = G i j) : gCells F m = gCells G m := by
  induction m with
  | zero => rfl
  | succ m ih => unfold gCells; rw [ih (fun i hi => h i (by omega)), h m (by omega), h m (by omega), h m (by omega), h m (by omega), h m (by omega)]
structure GPt (w : World) (base : Nat) (L : Nat → Option Gb) (rv sv bv : Int → Value) (ogv : Value) (ob : Int → Option Th) (m : Nat) : Prop where
  row : w.ownsRow base 217 5 ogv m (gCells (fun i j => gFld (ob i) (rv i) (sv i) (bv i) j) m)
  og : ∀ g, ogv.ownBlock = some g → L g = none
  lt : ∀ k, L k ≠ none → base ≤ k ∧ k < w.heap.size
  th : ∀ i : Nat, i < m → ∀ o, ob i = some o → GTh w L i (rv i) (sv i) (bv i) o
section
variable {w w' : World} {base : Nat} {L : Nat → Option Gb} {rv sv bv : Int → Value} {ogv ogv' r s b : Value} {ob : Int → Option Th} {m : Nat}
theorem GPt.nil (w : World) (base : Nat) (ob : Int → Option Th) : GPt w base (fun _ => none) (fun _ => .slice none 0 0) (fun _ => .slice none 0 0) (fun _ => .slice none 0 0) (.slice none 0 0) ob 0 :=
  ⟨World.ownsRow_nil _ _ _ _, fun g hg => rfl, fun k hk => absurd rfl hk, fun i hi => by omega⟩
theorem GPt.next (h : GPt w base L rv sv bv ogv ob m) (hbs : base ≤ w.heap.size) (hO : OnlyP (fun k => ogv.ownBlock = some k ∨ k < base) w w')
    (hrow : w'.ownsRow base 217 5 ogv' (m + 1) (gCells (fun i j => gFld (ob i) (rv i) (sv i) (bv i) j) m ++ [gFld (ob m) r s b 0, gFld (ob m) r s b 1, gFld (ob m) r s b 2, gFld (ob m) r s b 3, gFld (ob m) r s b 4]))
    (hor : ∀ k, r.ownBlock = some k → w.heap.size ≤ k ∧ k < w'.heap.size) (hos : ∀ k, s.ownBlock = some k → w.heap.size ≤ k ∧ k < w'.heap.size) (hob : ∀ k, b.ownBlock = some k → w.heap.size ≤ k ∧ k < w'.heap.size)
    (hog : ∀ g, ogv'.ownBlock = some g → ogv.ownBlock = some g ∨ (w.heap.size ≤ g ∧ r.ownBlock ≠ some g ∧ s.ownBlock ≠ some g ∧ b.ownBlock ≠ some g))
    (hth : ∀ o, ob m = some o → Bls w' 0 r o.refs ∧ Ints w' 0 s o.slots ∧ Ints w' 0 b o.blocks)
    (d1 : ∀ g, r.ownBlock = some g → s.ownBlock ≠ some g ∧ b.ownBlock ≠ some g) (d2 : ∀ g, s.ownBlock = some g → b.ownBlock ≠ some g) :
    ∃ L' rv' sv' bv', GPt w' base L' rv' sv' bv' ogv' ob (m + 1) := by
  obtain ⟨L', hL'⟩ : ∃ L' : Nat → Option Gb, L' = fun k => if r.ownBlock = some k then some (.rb m) else if s.ownBlock = some k then some (.sl m) else if b.ownBlock = some k then some (.bl m) else L k := ⟨_, rfl⟩
  have hlab : ∀ k, L k ≠ none → L' k = L k := fun k hk => by
    have := h.lt k hk
    rw [hL']
    simp only
    rw [if_neg (fun e => by have := hor k e; omega), if_neg (fun e => by have := hos k e; omega), if_neg (fun e => by have := hob k e; omega)]
  have hnew : ∀ k, L' k ≠ none → L k ≠ none ∨ (w.heap.size ≤ k ∧ k < w'.heap.size) := fun k hk => by
    rw [hL'] at hk
    simp only at hk
    by_cases e1 : r.ownBlock = some k
    · exact .inr (hor k e1)
    · rw [if_neg e1] at hk
      by_cases e2 : s.ownBlock = some k
      · exact .inr (hos k e2)
      · rw [if_neg e2] at hk
        by_cases e3 : b.ownBlock = some k
        · exact .inr (hob k e3)
        · rw [if_neg e3] at hk; exact .inl hk
  refine ⟨L', fun k => if k = m then r else rv k, fun k => if k = m then s else sv k, fun k => if k = m then b else bv k, ?_, fun g hg => ?_, fun k hk => ?_, fun i hi o ho => ?_⟩
  · have e : gCells (fun i j => gFld (ob i) (if (i : Int) = m then r else rv i) (if (i : Int) = m then s else sv i) (if (i : Int) = m then b else bv i) j) (m + 1) = gCells (fun i j => gFld (ob i) (rv i) (sv i) (bv i) j) m ++ [gFld (ob m) r s b 0, gFld (ob m) r s b 1, gFld (ob m) r s b 2, gFld (ob m) r s b 3, gFld (ob m) r s b 4] := by
      rw [gCells_succ]
      simp only [if_true]
      congr 1
      exact gCells_congr (fun i hi j => by
        have : ¬ ((i : Int) = (m : Int)) := by omega
        simp only [if_neg this])
    rw [e]
    exact hrow
  · rcases hog g hg with h1 | ⟨h1, h2, h3, h4⟩
    · have h2 := h.og g h1
      have h3 := World.ownsRow.lt h.row g h1
      rw [hL']
      simp only
      rw [if_neg (fun e => by have := hor g e; omega), if_neg (fun e => by have := hos g e; omega), if_neg (fun e => by have := hob g e; omega)]
      exact h2
    · have h5 : L g = none := by
        cases e : L g with
        | none => rfl
        | some ℓ => have := h.lt g (by rw [e]; simp); omega
      rw [hL']
      simp only
      rw [if_neg h2, if_neg h3, if_neg h4]
      exact h5
  · rcases hnew k hk with e | e
    · have := h.lt k e; have := hO.size; omega
    · omega
  · by_cases e : i = m
    · subst e
      simp only [if_true]
      obtain ⟨h1, h2, h3⟩ := hth o ho
      refine ⟨h1, fun g hg => ?_, h2, fun g hg => ?_, h3, fun g hg => ?_⟩
      · rw [hL']; simp only; rw [if_pos hg]
      · rw [hL']; simp only; rw [if_neg (fun e => (d1 g e).1 hg), if_pos hg]
      · rw [hL']; simp only; rw [if_neg (fun e => (d1 g e).2 hg), if_neg (fun e => d2 g e hg), if_pos hg]
    · have e2 : ¬ ((i : Int) = (m : Int)) := by omega
      simp only [if_neg e2]
      refine ((h.th i (by omega) o ho).only hO (fun x hx => ?_)).lab hlab
      have : L x = none := by
        rcases hx with hx | hx
        · exact h.og x hx
        · cases e : L x with
          | none => rfl
          | some ℓ => have := h.lt x (by rw [e]; simp); omega
      rw [this]
      exact ⟨by simp, by simp, by simp⟩
theorem GPt.done {q k c l hb T : Nat} {P : Pl} {v : Nat} (h : GPt w base L rv sv bv ogv ob 193) (hk : ∀ h o, ob h = some o → 1 ≤ h ∧ h ≤ 192) (hp : RRep w q k c l P) (hr : Row w hb T [ogv, .pointer (some ⟨q, 0, none⟩)])
    (h1 : v ≤ q ∧ v ≤ k ∧ v ≤ c ∧ v ≤ l ∧ v ≤ hb) (h2 : q < base ∧ k < base ∧ c < base ∧ l < base ∧ hb < base) (d1 : q ≠ hb ∧ k ≠ hb ∧ c ≠ hb ∧ l ≠ hb) :
    ∃ L' X', GRep w L' hb ⟨P, ob⟩ X' ∧ (∀ k, L' k ≠ none → v ≤ k) := by
  obtain ⟨n1, n2, n3, n4, n5, n6⟩ := hp.ne
  obtain ⟨_, _, _, _, _, _, _, _, _, f1, f2, f3, f4⟩ := hp.facts
  obtain ⟨e1, e2, e3, e4⟩ := d1
  rcases h.row.2 with ⟨_, h0⟩ | ⟨og, oc, cur, rfl, hog, hh, hcc, hm, hs, ht⟩
  · omega
  have hol := (Array.getElem?_eq_some_iff.1 hh).1
  obtain ⟨L', hL'⟩ : ∃ L' : Nat → Option Gb, L' = fun j => if j = hb then some .mem else if j = og then some .objs else if j = q then some .pq else if j = k then some .pk else if j = c then some .pc else if j = l then some .pl else L j := ⟨_, rfl⟩
  have hin : ∀ j, L' j ≠ none → j = hb ∨ j = og ∨ j = q ∨ j = k ∨ j = c ∨ j = l ∨ L j ≠ none := fun j hj => by
    rw [hL'] at hj
    simp only at hj
    by_cases a1 : j = hb
    · exact .inl a1
    · by_cases a2 : j = og
      · exact .inr (.inl a2)
      · by_cases a3 : j = q
        · exact .inr (.inr (.inl a3))
        · by_cases a4 : j = k
          · exact .inr (.inr (.inr (.inl a4)))
          · by_cases a5 : j = c
            · exact .inr (.inr (.inr (.inr (.inl a5))))
            · by_cases a6 : j = l
              · exact .inr (.inr (.inr (.inr (.inr (.inl a6)))))
              · simp only [a1, a2, a3, a4, a5, a6, if_false] at hj
                exact .inr (.inr (.inr (.inr (.inr (.inr hj)))))
  have hlab : ∀ j, L j ≠ none → L' j = L j := fun j hj => by
    have hjb := h.lt j hj
    have hjo : j ≠ og := fun e => hj (by rw [e]; exact h.og og rfl)
    rw [hL']
    simp only
    rw [if_neg (by omega), if_neg hjo, if_neg (by omega), if_neg (by omega), if_neg (by omega), if_neg (by omega)]
  have hne1 : og ≠ hb ∧ q ≠ og ∧ k ≠ og ∧ c ≠ og ∧ l ≠ og := ⟨by omega, by omega, by omega, by omega, by omega⟩
  obtain ⟨o1, o2, o3, o4, o5⟩ := hne1
  have hrb := hr.lt
  refine ⟨L', ⟨q, k, c, l, og, oc, rv, sv, bv⟩, ⟨fun j hj => ?_, ⟨T, hr⟩, by rw [hL']; simp, hp, by rw [hL']; simp [*], by rw [hL']; simp [*, Ne.symm n1], by rw [hL']; simp [*, Ne.symm n2, Ne.symm n4], by rw [hL']; simp [*, Ne.symm n3, Ne.symm n5, Ne.symm n6], ⟨217, cur.toList, ?_, fun i hi j hj => ?_⟩, by rw [hL']; simp [*], fun x o hx => ?_⟩, fun j hj => ?_⟩
  · rcases hin j hj with rfl | rfl | rfl | rfl | rfl | rfl | e
    · assumption
    · assumption
    · assumption
    · assumption
    · assumption
    · assumption
    · exact (h.lt j e).2
  · unfold Row
    rw [hh]
  · have hg := gCells_at (F := fun i j => gFld (ob i) (rv i) (sv i) (bv i) j) hi hj
    rw [← ht, List.getElem?_take_of_lt (by omega)] at hg
    exact hg
  · obtain ⟨a1, a2⟩ := hk x o hx
    obtain ⟨i, rfl⟩ : ∃ i : Nat, x = i := ⟨x.toNat, by omega⟩
    exact (h.th i (by omega) o hx).lab hlab
  · rcases hin j hj with rfl | rfl | rfl | rfl | rfl | rfl | e
    · exact h1.2.2.2.2
    · omega
    · exact h1.1
    · exact h1.2.1
    · exact h1.2.2.1
    · exact h1.2.2.2.1
    · have := (h.lt j e).1; omega
end
theorem wpList_bcpy {w : World} {ops : Array Oper} {rest : List Oper} {o : Oper} {a : Act} {Q : Exit → Act → World → Prop} (hgd : o.guard = none) (s x : Operand)
    (ho : o.op = .call { callee := .builtin .append, args := #[s, x], argTypes := #[50, 50] }) (w0 : World) (hO : Only [] w0 w)
    (gs : Nat) (hs : a.eval s = .slice (some ⟨gs, 0, none⟩) 0 0) (hown : Bls w w0.heap.size (.slice (some ⟨gs, 0, none⟩) 0 0) []) (va : Option Addr) (n vc : Nat) (l : List Bool) (hx : a.eval x = .slice va n vc) (hl : l.length = n) (hv : BArg w0 (.slice va n vc) l) (hb : n ≤ 1000000)
    (h : ∀ g cap w', Hid (Bls w' w0.heap.size (.slice (some ⟨g, 0, none⟩) n cap) l) → Hid (Only [] w0 w') → wpList Tryz.prog ops Q rest (a.put o.dst (.slice (some ⟨g, 0, none⟩) n cap)) w') : wpList Tryz.prog ops Q (o :: rest) a w := by
  refine wpList_plain hgd fun K hK => ?_
  have h1 := step_bcpy (ops := ops) (K := K) (Q := Q) (E := True) hgd s x ho w0 hO gs hs hown va n vc l hx hl hv hb (fun g cap w' k1 k2 _ _ => hK _ _ (h g cap w' k1 k2))
  rwa [if_pos (by simp [Region.wanted, hgd])] at h1
theorem wpList_icpy {w : World} {ops : Array Oper} {rest : List Oper} {o : Oper} {a : Act} {Q : Exit → Act → World → Prop} (hgd : o.guard = none) (s x : Operand)
    (ho : o.op = .call { callee := .builtin .append, args := #[s, x], argTypes := #[23, 23] }) (w0 : World) (hO : Only [] w0 w)
    (gs : Nat) (hs : a.eval s = .slice (some ⟨gs, 0, none⟩) 0 0) (hown : Ints w w0.heap.size (.slice (some ⟨gs, 0, none⟩) 0 0) []) (va : Option Addr) (n vc : Nat) (l : List Int) (hx : a.eval x = .slice va n vc) (hl : l.length = n) (hv : Read w0 (.slice va n vc) l) (hb : n ≤ 1000000)
    (h : ∀ g cap w', Hid (Ints w' w0.heap.size (.slice (some ⟨g, 0, none⟩) n cap) l) → Hid (Only [] w0 w') → wpList Tryz.prog ops Q rest (a.put o.dst (.slice (some ⟨g, 0, none⟩) n cap)) w') : wpList Tryz.prog ops Q (o :: rest) a w := by
  refine wpList_plain hgd fun K hK => ?_
  obtain ⟨i0, hi0, hz0, hz1, hz2⟩ := info_parts infoInt
  by_cases h0 : n = 0
  · subst h0
    have hnil : l = [] := List.eq_nil_of_length_eq_zero hl
    subst hnil
    have hsrc : Src Tryz.prog i0.size 23 (.slice va 0 vc) 0 [] w := by
      cases va with
      | none => exact Src.ofNil w Tryz.underlying23 vc
      | some a => exact Src.ofSlice w Tryz.underlying23 a 0 vc [] (by simp) (fun j u hu => by simp at hu) (fun u hu => by simp at hu)
    have hr := run_append_nothing (P := Tryz.prog) w 23 23 o.type 3 i0 Tryz.underlying23 hi0 (some ⟨gs, 0, none⟩) 0 0 (Nat.le_refl _) (.slice va 0 vc) hsrc
    unfold Oper.wp execOp
    simp only [ho, resolve, invoke, builtin, Sem.run_bind, Sem.run_pure, Result.andThen_ok, List.map_toArray, List.map_cons, List.map_nil, hs, hx, hr]
    exact hK _ _ (h gs 0 w hown hO)
  · rcases hv with ⟨rb, ro, rc, e1, e2⟩ | ⟨oa, rc, e1, e2⟩
    · simp only [Value.slice.injEq] at e1
      obtain ⟨rfl, _, rfl⟩ := e1
      refine wp_append_lies _ s x 23 ho w0.heap.size 3 i0 _ 1 8 Tryz.underlying23 hi0 hz0 hz1 hz2 rfl (by omega) _ 0 [] hs hown ⟨rb, ro, none⟩ n vc (l.map (.int .i64)) hx (by simp [hl]) (fun j u hu => ?_) (fun u hu => ?_) (by omega) (by simp only [maxLen]; omega) (by omega) hO.size w.heap.size rfl ?_
      · simp only [List.getElem?_map, Option.map_eq_some_iff] at hu
        obtain ⟨y, hy, rfl⟩ := hu
        have hj := (List.getElem?_eq_some_iff.1 hy).1
        have := e2 j hj
        rw [gI, hy] at this
        rw [addr_add]
        exact hO.cell this (by simp)
      · simp only [List.mem_map] at hu
        obtain ⟨y, _, rfl⟩ := hu
        rfl
      · intro g cap w' h1 h2 h3 h4
        rw [Nat.zero_add] at h1 ⊢
        refine hK _ _ (h g cap w' ?_ (hO.grown h2 (fun k hk => .inr (hown.own k hk).1)))
        show Ints _ _ _ _
        unfold Ints
        rw [hl]
        simpa using h1
    · exact absurd (by rw [← hl, e2]; rfl) h0
section
variable {L : Nat → Option Gb} {hb : Nat} {M : Hp} {X : GX}
end
end Go.Proofs.YthflghdaejbdkaaGreat
