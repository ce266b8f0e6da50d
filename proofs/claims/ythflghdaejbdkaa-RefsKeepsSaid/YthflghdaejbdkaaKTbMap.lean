/- Lemmas of this claim. -/
import Derived.Test.YthflghdaejbdkaaKTbModel
import Derived.Test.YthflghdaejbdkaaKMkG
namespace Go.Proofs.Ythflghdaejbdkaa
open Go.RowKit Go.Maps
set_option maxHeartbeats 3200000
set_option maxRecDepth 100000
set_option linter.unusedVariables false
def enC (e : En) : List Value := [.int .i64 e.kind, .int .i64 e.tgt, .int .i64 e.tag]
def enCells (l : List En) : List Value := l.flatMap enC
theorem enCells_app (l l' : List En) : enCells (l ++ l') = enCells l ++ enCells l' := by unfold enCells; rw [List.flatMap_append]
theorem enCells_at (l : List En) {i j : Nat} (hi : i < l.length) (hj : j < 3) : (enCells l)[i * 3 + j]? = (enC (eAt l i))[j]? := by
  induction l generalizing i with
  | nil => simp at hi
  | cons e l ih =>
    unfold enCells
    rw [List.flatMap_cons]
    cases i with
    | zero =>
      rw [Nat.zero_mul, Nat.zero_add, List.getElem?_append_left (by simp [enC]; omega)]
      rfl
    | succ i =>
      rw [List.getElem?_append_right (by simp [enC]; omega)]
      have h1 : (i + 1) * 3 + j - (enC e).length = i * 3 + j := by simp [enC]; omega
      rw [h1]
      have h2 := ih (i := i) (by simp at hi; omega)
      unfold enCells at h2
      rw [h2]
      rfl
def Ents (w : World) (T base : Nat) (v : Value) (l : List En) : Prop := w.ownsRow base T 3 v l.length (enCells l)
section
variable {w w' : World} {T base : Nat} {v : Value} {l : List En}
theorem Ents.own (h : Ents w T base v l) : ∀ k, v.ownBlock = some k → base ≤ k ∧ k < w.heap.size := World.ownsRow.lt h
theorem Ents.onlyP {S : Nat → Prop} (h : Ents w T base v l) (hg : OnlyP S w w') (hF : ∀ k, v.ownBlock = some k → ¬ S k) : Ents w' T base v l := by
  refine ⟨h.1, ?_⟩
  rcases h.2 with h2 | ⟨g, cap, cur, hv, hb, hh, r⟩
  · exact .inl h2
  · exact .inr ⟨g, cap, cur, hv, hb, by rw [hg.block g (Array.getElem?_eq_some_iff.1 hh).1 (hF g (by rw [hv]; rfl))]; exact hh, r⟩
theorem Ents.only {F : List Nat} (h : Ents w T base v l) (hg : Only F w w') (hF : ∀ k, v.ownBlock = some k → k ∉ F) : Ents w' T base v l := h.onlyP (hg.toP (S := fun k => k ∈ F) (fun x hx => .inl hx)) hF
theorem Ents.nil (w : World) (T base : Nat) : Ents w T base (.slice none 0 0) [] := World.ownsRow_nil _ _ _ _
theorem Ents.len (h : Ents w T base v l) : ∃ a cap, v = .slice a l.length cap := by
  rcases h.2 with ⟨h1, h2⟩ | ⟨g, cap, cur, hv, _⟩
  · exact ⟨none, 0, by rw [h1, h2]⟩
  · exact ⟨_, cap, hv⟩
end
section
variable {w : World} {T base : Nat} {v : Value} {l : List En}
theorem Ents.form (h : Ents w T base v l) (hl : l ≠ []) : ∃ g cap, v = .slice (some ⟨g, 0, none⟩) l.length cap ∧ base ≤ g ∧ g < w.heap.size ∧ l.length ≤ cap := by
  rcases h.2 with ⟨h1, h2⟩ | ⟨g, cap, cur, hv, hg, hh, hc, _⟩
  · exact absurd (List.eq_nil_of_length_eq_zero h2) hl
  · exact ⟨g, cap, hv, hg, (Array.getElem?_eq_some_iff.1 hh).1, hc⟩
theorem Ents.at (h : Ents w T base v l) {i : Nat} (hi : i < l.length) : ∃ g cap, v = .slice (some ⟨g, 0, none⟩) l.length cap ∧ g < w.heap.size ∧ l.length ≤ cap ∧ w.cell? ⟨g, i * 3, none⟩ = some (.int .i64 (eAt l i).kind) ∧ w.cell? ⟨g, i * 3 + 1, none⟩ = some (.int .i64 (eAt l i).tgt) ∧ w.cell? ⟨g, i * 3 + 2, none⟩ = some (.int .i64 (eAt l i).tag) ∧ ∀ k, w.frozen? ⟨g, k, none⟩ = false := by
  obtain ⟨g, cap, rfl, hb, hg, hc⟩ := h.form (fun e => by rw [e] at hi; simp at hi)
  refine ⟨g, cap, rfl, hg, hc, ?_, ?_, ?_, fun k => World.ownsRow.frozenAt h k⟩
  · rw [World.ownsRow.cellAt h _ (by omega)]; exact enCells_at l (j := 0) hi (by omega)
  · rw [World.ownsRow.cellAt h _ (by omega)]; exact enCells_at l (j := 1) hi (by omega)
  · rw [World.ownsRow.cellAt h _ (by omega)]; exact enCells_at l (j := 2) hi (by omega)
theorem enCells_set (l : List En) {i : Nat} (hi : i < l.length) (x : Int) : (enCells l).set (i * 3 + 1) (.int .i64 x) = enCells (l.set i ⟨(eAt l i).kind, x, (eAt l i).tag⟩) := by
  induction l generalizing i with
  | nil => simp at hi
  | cons e l ih =>
    cases i with
    | zero => rfl
    | succ i =>
      have h2 := ih (i := i) (by simp at hi; omega)
      rw [show (i + 1) * 3 + 1 = (i * 3 + 1) + 1 + 1 + 1 by omega]
      show _ :: _ :: _ :: (enCells l).set (i * 3 + 1) _ = _ :: _ :: _ :: enCells (l.set i _)
      rw [h2]; rfl
theorem Ents.put (h : Ents w T base v l) {i : Nat} (hi : i < l.length) (x : Int) {g cap n : Nat} (hv : v = .slice (some ⟨g, 0, none⟩) n cap) : Ents (w.setCell ⟨g, i * 3 + 1, none⟩ (.int .i64 x)) T base v (l.set i ⟨(eAt l i).kind, x, (eAt l i).tag⟩) := by
  obtain ⟨g2, cap2, h2, _⟩ := h.form (fun e => by rw [e] at hi; simp at hi)
  rw [hv] at h2
  simp only [Value.slice.injEq, Option.some.injEq, Addr.mk.injEq, and_true] at h2
  obtain ⟨rfl, rfl, rfl⟩ := h2
  subst hv
  have h3 := (World.ownsRow.stored h (i * 3 + 1) (.int .i64 x)).1
  unfold Ents
  rw [List.length_set, ← enCells_set l hi x]
  exact h3
end
theorem plainBool_inv {v : Value} {z : DataW Unit × List MemPlace} (h : plainElem (H := Unit) Try.prog 4 v = some z) : ∃ b, v = .bool b ∧ z = (.lit (.bool b), []) := by
  unfold plainElem at h
  rw [Try.underlying4] at h
  cases v <;> simp at h
  exact ⟨_, rfl, h.symm⟩
theorem zeroB (w : World) : (zeroValue 4).run Try.prog w = .ok (.bool false) w := by kernel_rfl
def FndAt (w : World) (mb n : Nat) (f : Nat → Bool) : Prop :=
  ∃ D : DataW Unit, w.ownsMap Try.prog 3 (plainElem (H := Unit) Try.prog 4) mb n D ∧ ∀ k : Nat, k < n → D.atKey (.int .i64 (k : Int)) (.lit (.bool false)) = .lit (.bool (f k))
theorem FndAt.only {w w' : World} {mb n : Nat} {f : Nat → Bool} {S : Nat → Prop} (h : FndAt w mb n f) (hg : OnlyP S w w') (hS : ¬ S mb) : FndAt w' mb n f := by
  obtain ⟨D, hD, hf⟩ := h
  have hlt := hD.lt
  obtain ⟨es, clock, hb, r⟩ := hD
  exact ⟨D, ⟨es, clock, (hg.block mb hlt hS).trans hb, r⟩, hf⟩
theorem FndAt.lt {w : World} {mb n : Nat} {f : Nat → Bool} (h : FndAt w mb n f) : mb < w.heap.size := by obtain ⟨D, h, _⟩ := h; exact h.lt
theorem FndAt.made (w : World) (f : Nat → Bool) : FndAt (w.alloc (.map #[] 0)) w.heap.size 0 f :=
  ⟨.map [], World.ownsMap_made _ _ _ _, fun k hk => by omega⟩
theorem FndAt.look {w : World} {mb n : Nat} {f : Nat → Bool} (h : FndAt w mb n f) {k : Nat} (hk : k < n) (hn : n ≤ 1000000) : (Instr.lookup 74 (.map (some mb)) (.int .i64 (k : Int)) false).run Try.prog w = .ok (.bool (f k)) w := by
  obtain ⟨D, hD, hf⟩ := h
  obtain ⟨v, ps, h1, h2⟩ := hD.lookup keyedI Try.underlying74 (zeroB w) (plainElem_bool Try.underlying4 false) (keyI (wfI_mk (k := (k : Int)) (by omega)))
  obtain ⟨c, rfl, hc⟩ := plainBool_inv h2
  rw [hf k hk] at hc
  simp at hc
  rw [h1, hc.1]
theorem FndAt.store {w : World} {mb n : Nat} {f : Nat → Bool} (h : FndAt w mb n f) (hn : n < 1000000) (v : Bool) : ∃ w', (Instr.mapUpdate 74 (.map (some mb)) (.int .i64 (n : Int)) (.bool v)).run Try.prog w = .ok () w' ∧ FndAt w' mb (n + 1) (fun j => if j = n then v else f j) ∧ w.grownBy w' (some mb) := by
  obtain ⟨D, hD, hf⟩ := h
  have hwk : wfI (n : Int) := wfI_mk (by omega)
  obtain ⟨w', h1, h2, h3⟩ := hD.update keyedI Try.underlying74 (by simp only [maxLen]; omega) (keyI hwk) (plainElem_bool Try.underlying4 v)
  have hm := hD.isMap
  refine ⟨w', h1, ⟨_, h2, fun j hj => ?_⟩, h3⟩
  by_cases e : j = n
  · subst e
    show _ = DataW.lit (Lit.bool (if j = j then v else f j))
    rw [if_pos rfl]
    exact Maps.atKey_put_same hm (isKeyI _ hwk) _ _
  · show _ = DataW.lit (Lit.bool (if j = n then v else f j))
    rw [if_neg e, Maps.atKey_put_other (ne_key (by omega))]
    exact hf j (by omega)
structure TbAt (w : World) (b : Nat) (ev qv : Value) (mo : Option Nat) (t : Tb) (kk : Nat) : Prop where
  row : ∃ U, Row w b U [.bool true, ev, qv, .int .i64 (t.ph : Int), .int .i64 (t.nx : Int), .map mo]
  ents : Ents w 81 0 ev t.ents
  q : Ints w 0 qv t.q
  fnd : ∀ mb, mo = some mb → ∃ n f, FndAt w mb n f ∧ n ≤ 20 ∧ (t.ph = 2 → kk ≤ n ∧ ∀ i, i < kk → f i = t.fd i)
  two : t.ph = 2 → 0 < kk → mo ≠ none
  n1 : ∀ g, ev.ownBlock = some g → g ≠ b ∧ mo ≠ some g ∧ qv.ownBlock ≠ some g
  n2 : ∀ g, qv.ownBlock = some g → g ≠ b ∧ mo ≠ some g
  n3 : mo ≠ some b
def TbA (b : Nat) (t : Tb) (kk : Nat) : Asn :=
  ⟨fun w S => ∃ ev qv mo, TbAt w b ev qv mo t kk ∧ ∀ k, S k ↔ (k = b ∨ ev.ownBlock = some k ∨ qv.ownBlock = some k ∨ mo = some k),
   fun ⟨ev, qv, mo, h, hS⟩ ho hd => ⟨ev, qv, mo, ⟨h.row.imp fun U x => ho.row x (fun x => hd b x ((hS b).2 (.inl rfl))), h.ents.onlyP ho (fun k hk x => hd k x ((hS k).2 (.inr (.inl hk)))), h.q.onlyP ho (fun k hk x => hd k x ((hS k).2 (.inr (.inr (.inl hk))))),
     fun mb e => by
       obtain ⟨n, f, h1, h2⟩ := h.fnd mb e
       exact ⟨n, f, h1.only ho (fun x => hd mb x ((hS mb).2 (.inr (.inr (.inr e))))), h2⟩, h.two, h.n1, h.n2, h.n3⟩, hS⟩,
   fun ⟨ev, qv, mo, h, hS⟩ hk => by
     rcases (hS _).1 hk with e | e | e | e
     · obtain ⟨U, hr⟩ := h.row; rw [e]; exact hr.lt
     · exact (h.ents.own _ e).2
     · exact (h.q.own _ e).2
     · obtain ⟨n, f, h1, _⟩ := h.fnd _ e; exact h1.lt⟩
def NowIs (t : Tb) (next : Nat) : Prop := (t.ph = 1 → nxt t.ents 1 next = nxt t.ents 1 t.nx) ∧ (t.ph = 2 → nxt t.ents 2 next = nxt t.ents 2 t.nx) ∧ (t.ph = 4 → nxt t.ents 3 next = nxt t.ents 3 t.nx)
structure TrAt (w : World) (b : Nat) (ev qv wv : Value) (nx : Nat) (wl : List Bool) (t : Tb) : Prop where
  row : ∃ U, Row w b U [ev, qv, .int .i64 (t.ph : Int), .int .i64 (nx : Int), wv]
  ents : Ents w 47 0 ev t.ents
  q : Ints w 0 qv t.q
  wh : Bls w 0 wv wl
  now : NowIs t nx
  two : wl.length ≤ 20 ∧ (t.ph = 2 → wl.length = t.ents.length ∧ ∀ i, i < t.ents.length → (eAt t.ents i).kind = 2 → gB wl i = t.fd i)
  n1 : ∀ g, ev.ownBlock = some g → g ≠ b ∧ wv.ownBlock ≠ some g ∧ qv.ownBlock ≠ some g
  n2 : ∀ g, qv.ownBlock = some g → g ≠ b ∧ wv.ownBlock ≠ some g
  n3 : wv.ownBlock ≠ some b
def TrA (b : Nat) (t : Tb) : Asn :=
  ⟨fun w S => ∃ ev qv wv nx wl, TrAt w b ev qv wv nx wl t ∧ ∀ k, S k ↔ (k = b ∨ ev.ownBlock = some k ∨ qv.ownBlock = some k ∨ wv.ownBlock = some k),
   fun ⟨ev, qv, wv, nx, wl, h, hS⟩ ho hd => ⟨ev, qv, wv, nx, wl, ⟨h.row.imp fun U x => ho.row x (fun x => hd b x ((hS b).2 (.inl rfl))), h.ents.onlyP ho (fun k hk x => hd k x ((hS k).2 (.inr (.inl hk)))), h.q.onlyP ho (fun k hk x => hd k x ((hS k).2 (.inr (.inr (.inl hk))))),
     h.wh.onlyP ho (fun k hk x => hd k x ((hS k).2 (.inr (.inr (.inr hk))))), h.now, h.two, h.n1, h.n2, h.n3⟩, hS⟩,
   fun ⟨ev, qv, wv, nx, wl, h, hS⟩ hk => by
     rcases (hS _).1 hk with e | e | e | e
     · obtain ⟨U, hr⟩ := h.row; rw [e]; exact hr.lt
     · exact (h.ents.own _ e).2
     · exact (h.q.own _ e).2
     · exact (h.wh.own _ e).2⟩
end Go.Proofs.Ythflghdaejbdkaa
