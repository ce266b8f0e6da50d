/- Lemmas of this claim. -/
import Derived.Test.YtkacgbigeobncaaGreatTaScopeG
namespace Go.Proofs.YtkacgbigeobncaaGreat
open Go.RowKit Go.Maps
set_option maxHeartbeats 3200000
set_option maxRecDepth 100000
set_option linter.unusedVariables false
theorem ranges_only {w w' : World} {S : Nat → Prop} {b r n : Nat} {D : DataW Unit} {left : Lit → Bool} {cnt : Nat} (h : w.ranges Tryz.prog 3 ptrElem b r n D left cnt) (ho : OnlyP S w w') (hb : ¬ S b) (hr : ¬ S r) : w'.ranges Tryz.prog 3 ptrElem b r n D left cnt := by
  have h1 := h.owns.lt
  have h2 := h.lt
  obtain ⟨es, clock, since, seen, c0, hb', F, hs, hD, hr', rest⟩ := h
  exact ⟨es, clock, since, seen, c0, (ho.block b h1 hb).trans hb', F, hs, hD, (ho.block r h2 hr).trans hr', rest⟩
theorem MapAt.congr {w : World} {mb n : Nat} {f g : Int → Option Nat} (h : MapAt w mb n f) (he : ∀ k, f k = g k) : MapAt w mb n g := by
  rw [show g = f from (funext he).symm]; exact h
section
variable {L : Nat → Option Lb} {p : Nat} {P : Pm} {X : PX} {w : World}
theorem PRep.mapTurn {w' : World} {ob : Int → Option Th} (h : PRep w L p P X) (hg : OnlyP (fun k => L k = some .map) w w') (hm : MapAt w' X.mb P.made (fun k => (ob k).map fun _ => X.blk k)) (ho : ∀ k t, ob k = some t → P.ob k = some t) : PRep w' L p { P with ob := ob } X := by
  have hne : ∀ k ℓ, ℓ ≠ Lb.map → L k = some .map → L k ≠ some ℓ := fun k ℓ h1 hk e => by rw [hk] at e; cases e; exact h1 rfl
  refine ⟨fun k hk => Nat.lt_of_lt_of_le (h.lt k hk) hg.size, ?_, h.Lm, h.sc.only hg (fun k hk => hne k _ (by simp) hk), fun t ht => ⟨(h.st t ht).1.onlyP hg (fun g hgv x => hne g (.stk t) (by simp) x ((h.st t ht).2 g hgv)), (h.st t ht).2⟩,
    hm, h.Lp, fun k t hk => (h.th k t (ho k t hk)).only hg (fun x hx => ⟨hne x _ (by simp) hx, hne x _ (by simp) hx⟩)⟩
  obtain ⟨T, hr⟩ := h.mem
  exact ⟨T, hg.row hr (fun x => hne _ .mem (by simp) x h.Lm)⟩
def setOb (ob : Int → Option Th) (k : Int) (t : Th) : Int → Option Th := fun j => if j = k then some t else ob j
theorem PRep.refTurn {w1 : World} (h : PRep w L p P X) {k : Int} {t : Th} (hk : P.ob k = some t) {v : Value} {l : List Int} (hg : Only (X.rv k).ownBlock.toList w w1) (hi : Ints w1 0 v l) (hb : ∀ g, v.ownBlock = some g → (X.rv k).ownBlock = some g ∨ (w.heap.size ≤ g ∧ g < w1.heap.size)) :
    ∃ L', PRep (w1.setCell ⟨X.blk k, 2, none⟩ v) L' p { P with ob := setOb P.ob k { t with refs := l } } { X with rv := fun j => if j = k then v else X.rv j } ∧ (∀ j, L' j ≠ none → L j ≠ none ∨ w.heap.size ≤ j) ∧ (∀ j, L j ≠ none → L' j = L j) ∧ ((∀ g, v.ownBlock = some g → (X.rv k).ownBlock = some g) → L' = L) := by
  obtain ⟨⟨T, hr⟩, hlb, hints, hst⟩ := h.th k t hk
  obtain ⟨L', hL'⟩ : ∃ L' : Nat → Option Lb, L' = fun j => if v.ownBlock = some j then some (.rf k) else L j := ⟨_, rfl⟩
  have hlab : ∀ j, L j ≠ none → L' j = L j := fun j hj => by
    rw [hL']
    by_cases e : v.ownBlock = some j
    · rcases hb j e with h1 | h1
      · simp only [e, if_true]; exact (hst j h1).symm
      · exact absurd (h.lt j hj) (by omega)
    · simp only [e, if_false]
  have hS : OnlyP (fun j => L j = some (.rf k)) w w1 := hg.toP (fun x hx => .inl (by
    cases e : (X.rv k).ownBlock with
    | none => rw [e] at hx; simp at hx
    | some b => rw [e] at hx; simp at hx; subst hx; exact hst _ e))
  have hO : OnlyP (fun j => L j = some (.rf k) ∨ L j = some (.th k)) w (w1.setCell ⟨X.blk k, 2, none⟩ v) := (hS.mono (fun x hx => .inl (.inl hx))).set (.inl (.inr hlb)) v
  have hne2 : ∀ j ℓ, ℓ ≠ Lb.rf k → ℓ ≠ .th k → (L j = some (.rf k) ∨ L j = some (.th k)) → L j ≠ some ℓ := fun j ℓ h1 h2 hj e => by
    rcases hj with hj | hj
    · rw [hj] at e; cases e; exact h1 rfl
    · rw [hj] at e; cases e; exact h2 rfl
  have hvne : v.ownBlock ≠ some (X.blk k) := fun e => by
    rcases hb _ e with h1 | h1
    · have := hst _ h1; rw [hlb] at this; cases this
    · have := h.lt (X.blk k) (by rw [hlb]; simp); omega
  refine ⟨L', ⟨fun j hj => ?_, ?_, lab_of hlab h.Lm, (h.sc.only hO (fun j hj => hne2 j .scp (by simp) (by simp) hj)).lab hlab, fun s hs => ⟨(h.st s hs).1.onlyP hO (fun g hgv x => hne2 g (.stk s) (by simp) (by simp) x ((h.st s hs).2 g hgv)), fun g hgv => lab_of hlab ((h.st s hs).2 g hgv)⟩,
    (h.mp.only hO (fun x => hne2 _ .map (by simp) (by simp) x h.Lp)).congr (fun j => ?_), lab_of hlab h.Lp, fun j u hj => ?_⟩, fun j hj => ?_, hlab, fun hs => ?_⟩
  · rw [hL'] at hj
    have h1 : (w1.setCell ⟨X.blk k, 2, none⟩ v).heap.size = w1.heap.size := by simp [World.setCell]
    rw [h1]
    by_cases e : v.ownBlock = some j
    · rcases hb j e with h2 | h2
      · exact Nat.lt_of_lt_of_le (h.lt j (by rw [hst j h2]; simp)) hg.size
      · exact h2.2
    · simp only [e, if_false] at hj
      exact Nat.lt_of_lt_of_le (h.lt j hj) hg.size
  · obtain ⟨T', hm⟩ := h.mem
    exact ⟨T', hO.row hm (fun x => hne2 p .mem (by simp) (by simp) x h.Lm)⟩
  · show _ = (setOb P.ob k { t with refs := l } j).map fun _ => X.blk j
    unfold setOb
    by_cases e : j = k
    · subst e; rw [if_pos rfl, hk]; rfl
    · rw [if_neg e]
  · have hj' : setOb P.ob k { t with refs := l } j = some u := hj
    unfold setOb at hj'
    by_cases e : j = k
    · subst e
      rw [if_pos rfl] at hj'
      cases hj'
      simp only [if_true]
      refine ⟨⟨T, ?_⟩, lab_of hlab hlb, ?_, fun g hgv => ?_⟩
      · have := (hS.row hr (fun x => by rw [hlb] at x; cases x)).set 2 v
        exact this
      · exact hi.only ((Only.refl [X.blk j] w1).set (p := ⟨X.blk j, 2, none⟩) (by simp) v) (fun g hgv => by simp; rintro rfl; exact hvne hgv)
      · rw [hL']; simp [hgv]
    · rw [if_neg e] at hj'
      simp only [e, if_false]
      exact ((h.th j u hj').only hO (fun x hx => ⟨hne2 x _ (by simp) (by simp [e]) hx, hne2 x _ (by simp [e]) (by simp) hx⟩)).lab hlab
  · rw [hL'] at hj
    by_cases e : v.ownBlock = some j
    · rcases hb j e with h1 | h1
      · exact .inl (by rw [hst j h1]; simp)
      · exact .inr h1.1
    · simp only [e, if_false] at hj
      exact .inl hj
  · rw [hL']
    funext j
    by_cases e : v.ownBlock = some j
    · simp only [e, if_true]; exact (hst j (hs j e)).symm
    · simp only [e, if_false]
theorem ScAt.setAll {v : Value} {l : List Sp} (h : ScAt w L v l) {j g cap n : Nat} (hv : v = .slice (some ⟨g, 0, none⟩) n cap) (hj : j < l.length) (s : Sp) :
    ScAt (w.setCells g (j * 5) [.int .i64 s.size, .int .i64 s.room, .int .i64 s.users, .int .i64 s.parent, .int .i64 s.portal]) L v (l.set j s) := by
  have e0 := h
  have a0 := e0.set hv hj (r := 0) (by omega) (x := s.size) (s := { l[j] with size := s.size }) rfl (fun q hq hne => by match q, hq with | 0, _ => exact absurd rfl hne | 1, _ => rfl | 2, _ => rfl | 3, _ => rfl | 4, _ => rfl)
  have a1 := a0.set hv (by simpa using hj) (r := 1) (by omega) (x := s.room) (s := { l[j] with size := s.size, room := s.room }) rfl (fun q hq hne => by rw [List.getElem_set_self]; match q, hq with | 0, _ => rfl | 1, _ => exact absurd rfl hne | 2, _ => rfl | 3, _ => rfl | 4, _ => rfl)
  have a2 := a1.set hv (by simpa using hj) (r := 2) (by omega) (x := s.users) (s := { l[j] with size := s.size, room := s.room, users := s.users }) rfl (fun q hq hne => by rw [List.getElem_set_self]; match q, hq with | 0, _ => rfl | 1, _ => rfl | 2, _ => exact absurd rfl hne | 3, _ => rfl | 4, _ => rfl)
  have a3 := a2.set hv (by simpa using hj) (r := 3) (by omega) (x := s.parent) (s := { l[j] with size := s.size, room := s.room, users := s.users, parent := s.parent }) rfl (fun q hq hne => by rw [List.getElem_set_self]; match q, hq with | 0, _ => rfl | 1, _ => rfl | 2, _ => rfl | 3, _ => exact absurd rfl hne | 4, _ => rfl)
  have a4 := a3.set hv (by simpa using hj) (r := 4) (by omega) (x := s.portal) (s := s) rfl (fun q hq hne => by rw [List.getElem_set_self]; match q, hq with | 0, _ => rfl | 1, _ => rfl | 2, _ => rfl | 3, _ => rfl | 4, _ => exact absurd rfl hne)
  simp only [List.set_set] at a4
  exact a4
theorem PRep.setAll (h : PRep w L p P X) {a : Int} {g cap j : Nat} (hv : X.scv = .slice (some ⟨g, 0, none⟩) P.n cap) (hj : j < P.n) (ej : a.toNat - 2 = j) (hg : L g = some .scp) (s : Sp) :
    PRep (w.setCells g (j * 5) [.int .i64 s.size, .int .i64 s.room, .int .i64 s.users, .int .i64 s.parent, .int .i64 s.portal]) L p (P.setSp a s) X := by
  have := h.turnSc ((OnlyP.refl (fun k => L k = some .scp) w).setCells (.inl hg) [.int .i64 s.size, .int .i64 s.room, .int .i64 s.users, .int .i64 s.parent, .int .i64 s.portal] (j * 5)) (h.sc.setAll hv (show j < P.scs.length from hj) s)
  unfold Pm.setSp
  rw [ej]
  exact this
def midOb (ob : Int → Option Th) (left : Lit → Bool) (k : Int) : Option Th := if left (.int .i64 k) then ob k else (ob k).map (cutRefs ob)
end
end Go.Proofs.YtkacgbigeobncaaGreat
