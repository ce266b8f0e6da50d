/- Lemmas of this claim. -/
import Derived.Test.YthflghdaejbdkaaGreatXfTbPC
import Derived.Test.YthflghdaejbdkaaGreatXfOFam
import Derived.Deep.RegionLaw
import Derived.Test.YthflghdaejbdkaaGreatXfTbGood
import Derived.Deep.Upon
import Derived.Test.YthflghdaejbdkaaGreatXfCyGiv
import Derived.Test.YthflghdaejbdkaaGreatXfCyQ
namespace Go.Proofs.YthflghdaejbdkaaGreat
open Go.RowKit Go.Maps
set_option maxHeartbeats 3200000
set_option maxRecDepth 100000
set_option linter.unusedVariables false
section
variable {l : List Asn} {i j k q r b : Nat} {m : Mk} {t : Tb} {w0 w w' : World}
theorem TrAt.cells {ev qv wv : Value} {nx : Nat} {wl : List Bool} (h : TrAt w b ev qv wv nx wl t) : w.cell? ⟨b, 0, none⟩ = some ev ∧ w.cell? ⟨b, 1, none⟩ = some qv ∧ w.cell? ⟨b, 2, none⟩ = some (.int .i64 (t.ph : Int)) ∧ w.cell? ⟨b, 3, none⟩ = some (.int .i64 (nx : Int)) ∧ w.cell? ⟨b, 4, none⟩ = some wv ∧ ∀ k, w.frozen? ⟨b, k, none⟩ = false := by
  obtain ⟨U, h⟩ := h.row
  exact ⟨h.cell 0 rfl, h.cell 1 rfl, h.cell 2 rfl, h.cell 3 rfl, h.cell 4 rfl, fun k => h.free k⟩
theorem TrAt.same {ev qv wv ev2 qv2 wv2 : Value} {nx nx2 : Nat} {wl wl2 : List Bool} {t2 : Tb} (h : TrAt w b ev qv wv nx wl t) (h2 : TrAt w b ev2 qv2 wv2 nx2 wl2 t2) : ev2 = ev ∧ qv2 = qv ∧ wv2 = wv := by
  have e1 := h.cells.1.symm.trans h2.cells.1
  have e2 := h.cells.2.1.symm.trans h2.cells.2.1
  have e3 := h.cells.2.2.2.2.1.symm.trans h2.cells.2.2.2.2.1
  simp only [Option.some.injEq] at e1 e2 e3
  exact ⟨e1.symm, e2.symm, e3.symm⟩
def trS (b : Nat) (ev qv wv : Value) (x : Nat) : Prop := x = b ∨ ev.ownBlock = some x ∨ qv.ownBlock = some x ∨ wv.ownBlock = some x
theorem TrAt.rest {ev qv wv : Value} {nx : Nat} {wl : List Bool} (h : TrAt w b ev qv wv nx wl t) (ho : Only [b] w w') : Ents w' 48 0 ev t.ents ∧ Ints w' 0 qv t.q ∧ Bls w' 0 wv wl :=
  ⟨h.ents.only ho (fun g hg x => (h.n1 g hg).1 (by simpa using x)), h.q.only ho (fun g hg x => (h.n2 g hg).1 (by simpa using x)), h.wh.only ho (fun g hg x => h.n3 (by simp at x; rw [← x]; exact hg))⟩
theorem TrAt.only0 {ev qv wv : Value} {nx : Nat} {wl : List Bool} (h : TrAt w b ev qv wv nx wl t) (ho : Only [] w w') : TrAt w' b ev qv wv nx wl t := by
  obtain ⟨h1, h2, h3⟩ := h.rest (ho.mono (by simp))
  exact ⟨h.row.imp fun U x => ho.row x (by simp), h1, h2, h3, h.now, h.two, h.n1, h.n2, h.n3⟩
theorem NowIs.self (t : Tb) : NowIs t t.nx := ⟨fun _ => rfl, fun _ => rfl, fun _ => rfl⟩
end
end Go.Proofs.YthflghdaejbdkaaGreat
namespace Go.Proofs.YthflghdaejbdkaaGreat
open Go.RowKit Go.Maps
set_option maxHeartbeats 12800000
set_option maxRecDepth 100000
set_option linter.unusedVariables false
def gCells (F : Nat → Nat → Value) : Nat → List Value
  | 0 => []
  | m + 1 => gCells F m ++ [F m 0, F m 1, F m 2, F m 3, F m 4]
theorem gCells_len (F : Nat → Nat → Value) (m : Nat) : (gCells F m).length = m * 5 := by
  induction m with
  | zero => rfl
  | succ m ih => unfold gCells; rw [List.length_append, ih]; simp; omega
theorem gCells_at {F : Nat → Nat → Value} {m i j : Nat} (hi : i < m) (hj : j < 5) : (gCells F m)[i * 5 + j]? = some (F i j) := by
  induction m with
  | zero => omega
  | succ m ih =>
    unfold gCells
    by_cases e : i = m
    · subst e
      rw [List.getElem?_append_right (by rw [gCells_len]; omega), gCells_len, show i * 5 + j - i * 5 = j by omega]
      match j, hj with
      | 0, _ => rfl
      | 1, _ => rfl
      | 2, _ => rfl
      | 3, _ => rfl
      | 4, _ => rfl
      | j + 5, hj => omega
    · rw [List.getElem?_append_left (by rw [gCells_len]; omega)]
      exact ih (by omega)
theorem Read.onlyR {w w' : World} {v : Value} {l : List Int} (h : Read w v l) (ho : Only [] w w') : Read w' v l := by
  rcases h with ⟨b, o, c, h1, h2⟩ | h1
  · exact .inl ⟨b, o, c, h1, fun i hi => ho.cell (h2 i hi) (by simp)⟩
  · exact .inr h1
structure GPt (w : World) (base : Nat) (L : Nat → Option Gb) (rv sv bv : Int → Value) (ogv : Value) (ob : Int → Option Th) (m : Nat) : Prop where
  row : w.ownsRow base 217 5 ogv m (gCells (fun i j => gFld (ob i) (rv i) (sv i) (bv i) j) m)
  og : ∀ g, ogv.ownBlock = some g → L g = none
  lt : ∀ k, L k ≠ none → base ≤ k ∧ k < w.heap.size
  th : ∀ i : Nat, i < m → ∀ o, ob i = some o → GTh w L i (rv i) (sv i) (bv i) o
section
variable {w w' : World} {base : Nat} {L : Nat → Option Gb} {rv sv bv : Int → Value} {ogv ogv' r s b : Value} {ob : Int → Option Th} {m : Nat}
theorem GPt.done {q k c l hb T : Nat} {P : Pl} {v : Nat} (h : GPt w base L rv sv bv ogv ob 193) (hk : ∀ h o, ob h = some o → 1 ≤ h ∧ h ≤ 192) (hp : RRep w q k c l P) (hr : Row w hb T [ogv, .pointer (some ⟨q, 0, none⟩)])
    (h1 : v ≤ q ∧ v ≤ k ∧ v ≤ c ∧ v ≤ l ∧ v ≤ hb) (h2 : q < base ∧ k < base ∧ c < base ∧ l < base ∧ hb < base) (d1 : q ≠ hb ∧ k ≠ hb ∧ c ≠ hb ∧ l ≠ hb) :
    ∃ L' X', GRep w L' hb ⟨P, ob⟩ X' ∧ (∀ k, L' k ≠ none → v ≤ k) := by
  obtain ⟨n1, n2, n3, n4, n5, n6⟩ := hp.ne
  obtain ⟨_, _, _, _, _, _, _, _, _, f1, f2, f3, f4⟩ := hp.facts
  obtain ⟨e1, e2, e3, e4⟩ := d1
  rcases h.row.2 with ⟨_, h0⟩ | ⟨og, oc, cur, rfl, hog, hh, hcc, hm, hs, ht⟩
  · omega
  have hol := (Array.getElem?_eq_some_iff.1 hh).1
  obtain ⟨L', hL'⟩ : ∃ L' : Nat → Option Gb, L' = fun j => if j = hb then some .mem else if j = og then some .objs else if j = q then some .pq else if j = k then some .pk else if j = c then some .pc else if j = l then some .pl else L j := ⟨_, rfl⟩
  have hin : ∀ j, L' j ≠ none → j = hb ∨ j = og ∨ j = q ∨ j = k ∨ j = c ∨ j = l ∨ L j ≠ none := fun j hj => by
    rw [hL'] at hj
    simp only at hj
    by_cases a1 : j = hb
    · exact .inl a1
    · by_cases a2 : j = og
      · exact .inr (.inl a2)
      · by_cases a3 : j = q
        · exact .inr (.inr (.inl a3))
        · by_cases a4 : j = k
          · exact .inr (.inr (.inr (.inl a4)))
          · by_cases a5 : j = c
            · exact .inr (.inr (.inr (.inr (.inl a5))))
            · by_cases a6 : j = l
              · exact .inr (.inr (.inr (.inr (.inr (.inl a6)))))
              · simp only [a1, a2, a3, a4, a5, a6, if_false] at hj
                exact .inr (.inr (.inr (.inr (.inr (.inr hj)))))
  have hlab : ∀ j, L j ≠ none → L' j = L j := fun j hj => by
    have hjb := h.lt j hj
    have hjo : j ≠ og := fun e => hj (by rw [e]; exact h.og og rfl)
    rw [hL']
    simp only
    rw [if_neg (by omega), if_neg hjo, if_neg (by omega), if_neg (by omega), if_neg (by omega), if_neg (by omega)]
  have hne1 : og ≠ hb ∧ q ≠ og ∧ k ≠ og ∧ c ≠ og ∧ l ≠ og := ⟨by omega, by omega, by omega, by omega, by omega⟩
  obtain ⟨o1, o2, o3, o4, o5⟩ := hne1
  have hrb := hr.lt
  refine ⟨L', ⟨q, k, c, l, og, oc, rv, sv, bv⟩, ⟨fun j hj => ?_, ⟨T, hr⟩, by rw [hL']; simp, hp, by rw [hL']; simp [*], by rw [hL']; simp [*, Ne.symm n1], by rw [hL']; simp [*, Ne.symm n2, Ne.symm n4], by rw [hL']; simp [*, Ne.symm n3, Ne.symm n5, Ne.symm n6], ⟨217, cur.toList, ?_, fun i hi j hj => ?_⟩, by rw [hL']; simp [*], fun x o hx => ?_⟩, fun j hj => ?_⟩
  · rcases hin j hj with rfl | rfl | rfl | rfl | rfl | rfl | e
    · assumption
    · assumption
    · assumption
    · assumption
    · assumption
    · assumption
    · exact (h.lt j e).2
  · unfold Row
    rw [hh]
  · have hg := gCells_at (F := fun i j => gFld (ob i) (rv i) (sv i) (bv i) j) hi hj
    rw [← ht, List.getElem?_take_of_lt (by omega)] at hg
    exact hg
  · obtain ⟨a1, a2⟩ := hk x o hx
    obtain ⟨i, rfl⟩ : ∃ i : Nat, x = i := ⟨x.toNat, by omega⟩
    exact (h.th i (by omega) o hx).lab hlab
  · rcases hin j hj with rfl | rfl | rfl | rfl | rfl | rfl | e
    · exact h1.2.2.2.2
    · omega
    · exact h1.1
    · exact h1.2.1
    · exact h1.2.2.1
    · exact h1.2.2.2.1
    · have := (h.lt j e).1; omega
end
theorem wpList_icpy {w : World} {ops : Array Oper} {rest : List Oper} {o : Oper} {a : Act} {Q : Exit → Act → World → Prop} (hgd : o.guard = none) (s x : Operand)
    (ho : o.op = .call { callee := .builtin .append, args := #[s, x], argTypes := #[23, 23] }) (w0 : World) (hO : Only [] w0 w)
    (gs : Nat) (hs : a.eval s = .slice (some ⟨gs, 0, none⟩) 0 0) (hown : Ints w w0.heap.size (.slice (some ⟨gs, 0, none⟩) 0 0) []) (va : Option Addr) (n vc : Nat) (l : List Int) (hx : a.eval x = .slice va n vc) (hl : l.length = n) (hv : Read w0 (.slice va n vc) l) (hb : n ≤ 1000000)
    (h : ∀ g cap w', Hid (Ints w' w0.heap.size (.slice (some ⟨g, 0, none⟩) n cap) l) → Hid (Only [] w0 w') → wpList Tryz.prog ops Q rest (a.put o.dst (.slice (some ⟨g, 0, none⟩) n cap)) w') : wpList Tryz.prog ops Q (o :: rest) a w := by
  refine wpList_plain hgd fun K hK => ?_
  obtain ⟨i0, hi0, hz0, hz1, hz2⟩ := info_parts infoInt
  by_cases h0 : n = 0
  · subst h0
    have hnil : l = [] := List.eq_nil_of_length_eq_zero hl
    subst hnil
    have hsrc : Src Tryz.prog i0.size 23 (.slice va 0 vc) 0 [] w := by
      cases va with
      | none => exact Src.ofNil w Tryz.underlying23 vc
      | some a => exact Src.ofSlice w Tryz.underlying23 a 0 vc [] (by simp) (fun j u hu => by simp at hu) (fun u hu => by simp at hu)
    have hr := run_append_nothing (P := Tryz.prog) w 23 23 o.type 3 i0 Tryz.underlying23 hi0 (some ⟨gs, 0, none⟩) 0 0 (Nat.le_refl _) (.slice va 0 vc) hsrc
    unfold Oper.wp execOp
    simp only [ho, resolve, invoke, builtin, Sem.run_bind, Sem.run_pure, Result.andThen_ok, List.map_toArray, List.map_cons, List.map_nil, hs, hx, hr]
    exact hK _ _ (h gs 0 w hown hO)
  · rcases hv with ⟨rb, ro, rc, e1, e2⟩ | ⟨oa, rc, e1, e2⟩
    · simp only [Value.slice.injEq] at e1
      obtain ⟨rfl, _, rfl⟩ := e1
      refine wp_append_lies _ s x 23 ho w0.heap.size 3 i0 _ 1 8 Tryz.underlying23 hi0 hz0 hz1 hz2 rfl (by omega) _ 0 [] hs hown ⟨rb, ro, none⟩ n vc (l.map (.int .i64)) hx (by simp [hl]) (fun j u hu => ?_) (fun u hu => ?_) (by omega) (by simp only [maxLen]; omega) (by omega) hO.size w.heap.size rfl ?_
      · simp only [List.getElem?_map, Option.map_eq_some_iff] at hu
        obtain ⟨y, hy, rfl⟩ := hu
        have hj := (List.getElem?_eq_some_iff.1 hy).1
        have := e2 j hj
        rw [gI, hy] at this
        rw [addr_add]
        exact hO.cell this (by simp)
      · simp only [List.mem_map] at hu
        obtain ⟨y, _, rfl⟩ := hu
        rfl
      · intro g cap w' h1 h2 h3 h4
        rw [Nat.zero_add] at h1 ⊢
        refine hK _ _ (h g cap w' ?_ (hO.grown h2 (fun k hk => .inr (hown.own k hk).1)))
        show Ints _ _ _ _
        unfold Ints
        rw [hl]
        simpa using h1
    · exact absurd (by rw [← hl, e2]; rfl) h0
section
variable {L : Nat → Option Gb} {hb : Nat} {M : Hp} {X : GX}
end
end Go.Proofs.YthflghdaejbdkaaGreat
namespace Go.Proofs.YthflghdaejbdkaaGreat
open Go.RowKit Go.Maps
set_option maxHeartbeats 6400000
set_option maxRecDepth 100000
set_option linter.unusedVariables false
theorem rtnew_any (w : World) : Calls Tryz.prog 90 #[] w (fun e w' => e = .returned (.pointer (some ⟨w.heap.size, 0, none⟩)) ∧ w' = w.alloc (.cells #[.slice none 0 0, .slice none 0 0, .int .i64 0, .int .i64 0, .slice none 0 0] 52)) := by
  refine calls_abs fun R hR => ?_
  go_enter Tryz.func90, Tryz.ntmps90
  go_wp2_with fail
  exact hR.out _ _ ⟨rfl, rfl⟩
theorem tr_born (w : World) : Born w (w.alloc (.cells #[.slice none 0 0, .slice none 0 0, .int .i64 0, .int .i64 0, .slice none 0 0] 52)) (TrA w.heap.size Tb.new) :=
  ⟨(Only.refl [] w).alloc _, fun k => k = w.heap.size ∨ (Value.slice none 0 0).ownBlock = some k ∨ (Value.slice none 0 0).ownBlock = some k ∨ (Value.slice none 0 0).ownBlock = some k, ⟨.slice none 0 0, .slice none 0 0, .slice none 0 0, 0, [], ⟨⟨_, Row.new w _ _⟩, Ents.nil _ _ _, Ints.nil _ _, Bls.nil _ _, NowIs.self _, ⟨Nat.zero_le _, fun h => by simp [Tb.new] at h⟩, fun g hg => by (cases hg), fun g hg => by (cases hg), fun e => by (cases e)⟩, fun k => Iff.rfl⟩, fun k hk => by
    rcases hk with hk | hk | hk | hk
    · omega
    · cases hk
    · cases hk
    · cases hk⟩
section
variable {l : List Asn} {i j k q r b : Nat} {m : Mk} {t : Tb} {w0 w w' : World} {ev qv wv : Value} {nx : Nat} {wl : List Bool}
end
end Go.Proofs.YthflghdaejbdkaaGreat
namespace Go.Proofs.YthflghdaejbdkaaGreat
open Go.RowKit Go.Maps
set_option maxHeartbeats 3200000
set_option maxRecDepth 100000
set_option linter.unusedVariables false
section
variable {w w' : World}
theorem only_a1 (w : World) (o : Obj) : Only [] w (w.alloc o).drew := ((Only.refl [] w).alloc o).drew
theorem only_a2 (w : World) (o o' : Obj) : Only [] w ((w.alloc o).alloc o').drew := (((Only.refl [] w).alloc o).alloc o').drew
theorem Only.cell0 {w0 wl : World} (h : Only [] w0 wl) {a : Addr} {v : Value} (hc : w0.cell? a = some v) : wl.cell? a = some v := h.cell hc (by simp)
theorem Only.frozen0 {w0 wl : World} (h : Only [] w0 wl) {a : Addr} {v : Value} (hc : w0.cell? a = some v) (hf : w0.frozen? a = false) : wl.frozen? a = false := by
  rw [World.frozen?_of_block (h.block a.block (World.block_lt_of_cell? w0 _ hc) (by simp))]
  exact hf
end
end Go.Proofs.YthflghdaejbdkaaGreat
namespace Go.Proofs.YthflghdaejbdkaaGreat
open Go.RowKit Go.Maps
set_option maxHeartbeats 6400000
set_option maxRecDepth 100000
set_option linter.unusedVariables false
section
variable {w0 w w' : World} {l : List Asn} {b : Nat} {c : Co} {x : GX5} {i : Nat} {m : Mk} {t : Tb}
theorem GoA.open (h : Fam w0 w l) (hi : l[i]? = some (GoA b c)) : ∃ x : GX5, x.ok c ∧ Fam w0 w (G5 b c x ++ l.set i NoA) := h.open1 hi
theorem GoA.born (hx : x.ok c) (h : Fam w0 w (G5 b c x ++ l)) : Fam w0 w (l ++ [GoA b c]) := h.close2 (P := fun x => GX5.ok x c) (F := G5 b c) x hx rfl
theorem G5.row (h : Fam w0 w (G5 b c x ++ l)) : Row w b 99 (GRow5 b c x) := h.row 4 rfl
theorem GRow5.cells (h : Fam w0 w (G5 b c x ++ l)) : w.cell? ⟨b, 0, none⟩ = some (.pointer (some ⟨x.q, 0, none⟩)) ∧ w.cell? ⟨b, 1, none⟩ = some (.pointer (some ⟨x.ub, 0, none⟩)) ∧ w.cell? ⟨b, 2, none⟩ = some (.pointer (if x.on then some ⟨x.r, 0, none⟩ else none)) ∧ w.cell? ⟨b, 3, none⟩ = some (.int .i64 (c.ph : Int)) ∧ w.cell? ⟨b, 4, none⟩ = some (.int .i64 c.cr) ∧ w.cell? ⟨b, 5, none⟩ = some (.int .i64 c.rate) ∧ w.cell? ⟨b, 6, none⟩ = some (.int .i64 (c.pages : Int)) ∧ w.cell? ⟨b, 7, none⟩ = some (.int .i64 (x.mv : Int)) ∧ w.cell? ⟨b, 8, none⟩ = some x.sv ∧ ∀ k, w.frozen? ⟨b, k, none⟩ = false := by
  have r := G5.row h
  exact ⟨r.cell 0 rfl, r.cell 1 rfl, r.cell 2 rfl, r.cell 3 rfl, r.cell 4 rfl, r.cell 5 rfl, r.cell 6 rfl, r.cell 7 rfl, r.cell 8 rfl, fun k => r.free k⟩
theorem G5.m2 (ho : x.on = true) (h : Fam w0 w (G5 b c x ++ l)) : w.cell? ⟨b, 2, none⟩ = some (.pointer (some ⟨x.r, 0, none⟩)) := by
  have := (GRow5.cells h).2.2.1
  rw [ho] at this
  exact this
end
end Go.Proofs.YthflghdaejbdkaaGreat
