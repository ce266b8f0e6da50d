/- Lemmas of this claim. -/
import Derived.Test.YthflghdaejbdkaaGreatXfMkP
import Derived.Test.YthflghdaejbdkaaGreatXfTbGood
import Derived.Laws.ResultCell
import Derived.StillTailTactics
namespace Go.Proofs.YthflghdaejbdkaaGreat
open Go.RowKit Go.Maps
set_option maxHeartbeats 6400000
set_option maxRecDepth 100000
set_option linter.unusedVariables false
section
variable {w0 w : World} {l : List Asn} {i j q r : Nat} {m : Mk}
end
end Go.Proofs.YthflghdaejbdkaaGreat
namespace Go.Proofs.YthflghdaejbdkaaGreat
open Go.RowKit Go.Maps
set_option maxHeartbeats 6400000
set_option maxRecDepth 100000
set_option linter.unusedVariables false
section
variable {w0 w : World} {l : List Asn} {i j q r : Nat} {m : Mk}
end
end Go.Proofs.YthflghdaejbdkaaGreat
namespace Go.Proofs.YthflghdaejbdkaaGreat
open Go.RowKit Go.Maps
set_option maxHeartbeats 6400000
set_option maxRecDepth 100000
set_option linter.unusedVariables false
section
variable {w0 w : World} {l : List Asn} {i j q r : Nat} {m : Mk}
end
end Go.Proofs.YthflghdaejbdkaaGreat
namespace Go.Proofs.YthflghdaejbdkaaGreat
open Go.RowKit Go.Maps
set_option maxHeartbeats 6400000
set_option maxRecDepth 100000
set_option linter.unusedVariables false
section
variable {w0 w : World} {l : List Asn} {i j q r : Nat} {m : Mk}
end
end Go.Proofs.YthflghdaejbdkaaGreat
namespace Go.Proofs.YthflghdaejbdkaaGreat
open Go.RowKit Go.Maps
set_option maxHeartbeats 6400000
set_option maxRecDepth 100000
set_option linter.unusedVariables false
theorem mk_intsM (n : Nat) (hn : n ≤ 1000) : ∃ C : Array Value, C.toList = List.replicate n (.int .i64 0) ∧ ∀ wx : World, (Instr.makeSlice 23 (.int .i64 (n : Int)) (.int .i64 (n : Int))).run Tryz.prog wx = .ok (.slice (some ⟨wx.heap.size, 0, none⟩) n n) (wx.alloc (.cells C 3)) := by
  obtain ⟨i0, hi0, hz0, hz1, hz2⟩ := info_parts infoInt
  refine ⟨madeCells (Value.int .i64 0).cells (n * 1), by rw [made_ints], fun wx => ?_⟩
  rw [run_makeSlice (P := Tryz.prog) (w := wx) 23 3 i0 _ Tryz.underlying23 hi0 hz0 .i64 .i64 _ _ (by omega) (by omega) (by rw [hz1]; omega) (by rw [hz2]; omega) (by omega), hz1]
  rfl
section
variable {w0 w : World} {l : List Asn} {i j q r : Nat} {m : Mk}
end
end Go.Proofs.YthflghdaejbdkaaGreat
namespace Go.Proofs.YthflghdaejbdkaaGreat
open Go.RowKit Go.Maps
set_option maxHeartbeats 3200000
set_option maxRecDepth 100000
set_option linter.unusedVariables false
def enC (e : En) : List Value := [.int .i64 e.kind, .int .i64 e.tgt, .int .i64 e.tag]
def enCells (l : List En) : List Value := l.flatMap enC
theorem enCells_len (l : List En) : (enCells l).length = l.length * 3 := by
  unfold enCells
  induction l with
  | nil => rfl
  | cons e l ih => rw [List.flatMap_cons, List.length_append, ih]; simp [enC]; omega
theorem enCells_at (l : List En) {i j : Nat} (hi : i < l.length) (hj : j < 3) : (enCells l)[i * 3 + j]? = (enC (eAt l i))[j]? := by
  induction l generalizing i with
  | nil => simp at hi
  | cons e l ih =>
    unfold enCells
    rw [List.flatMap_cons]
    cases i with
    | zero =>
      rw [Nat.zero_mul, Nat.zero_add, List.getElem?_append_left (by simp [enC]; omega)]
      rfl
    | succ i =>
      rw [List.getElem?_append_right (by simp [enC]; omega)]
      have h1 : (i + 1) * 3 + j - (enC e).length = i * 3 + j := by simp [enC]; omega
      rw [h1]
      have h2 := ih (i := i) (by simp at hi; omega)
      unfold enCells at h2
      rw [h2]
      rfl
def Ents (w : World) (T base : Nat) (v : Value) (l : List En) : Prop := w.ownsRow base T 3 v l.length (enCells l)
section
variable {w w' : World} {T base : Nat} {v : Value} {l : List En}
theorem Ents.own (h : Ents w T base v l) : ∀ k, v.ownBlock = some k → base ≤ k ∧ k < w.heap.size := World.ownsRow.lt h
theorem Ents.onlyP {S : Nat → Prop} (h : Ents w T base v l) (hg : OnlyP S w w') (hF : ∀ k, v.ownBlock = some k → ¬ S k) : Ents w' T base v l := by
  refine ⟨h.1, ?_⟩
  rcases h.2 with h2 | ⟨g, cap, cur, hv, hb, hh, r⟩
  · exact .inl h2
  · exact .inr ⟨g, cap, cur, hv, hb, by rw [hg.block g (Array.getElem?_eq_some_iff.1 hh).1 (hF g (by rw [hv]; rfl))]; exact hh, r⟩
theorem Ents.only {F : List Nat} (h : Ents w T base v l) (hg : Only F w w') (hF : ∀ k, v.ownBlock = some k → k ∉ F) : Ents w' T base v l := h.onlyP (hg.toP (S := fun k => k ∈ F) (fun x hx => .inl hx)) hF
theorem Ents.nil (w : World) (T base : Nat) : Ents w T base (.slice none 0 0) [] := World.ownsRow_nil _ _ _ _
theorem Ents.len (h : Ents w T base v l) : ∃ a cap, v = .slice a l.length cap := by
  rcases h.2 with ⟨h1, h2⟩ | ⟨g, cap, cur, hv, _⟩
  · exact ⟨none, 0, by rw [h1, h2]⟩
  · exact ⟨_, cap, hv⟩
end
section
variable {w : World} {T base : Nat} {v : Value} {l : List En}
theorem Ents.low (h : Ents w T base v l) {b : Nat} (hb : b ≤ base) : Ents w T b v l := World.ownsRow.mono h hb
theorem Ents.form (h : Ents w T base v l) (hl : l ≠ []) : ∃ g cap, v = .slice (some ⟨g, 0, none⟩) l.length cap ∧ base ≤ g ∧ g < w.heap.size ∧ l.length ≤ cap := by
  rcases h.2 with ⟨h1, h2⟩ | ⟨g, cap, cur, hv, hg, hh, hc, _⟩
  · exact absurd (List.eq_nil_of_length_eq_zero h2) hl
  · exact ⟨g, cap, hv, hg, (Array.getElem?_eq_some_iff.1 hh).1, hc⟩
theorem Ents.at (h : Ents w T base v l) {i : Nat} (hi : i < l.length) : ∃ g cap, v = .slice (some ⟨g, 0, none⟩) l.length cap ∧ g < w.heap.size ∧ l.length ≤ cap ∧ w.cell? ⟨g, i * 3, none⟩ = some (.int .i64 (eAt l i).kind) ∧ w.cell? ⟨g, i * 3 + 1, none⟩ = some (.int .i64 (eAt l i).tgt) ∧ w.cell? ⟨g, i * 3 + 2, none⟩ = some (.int .i64 (eAt l i).tag) ∧ ∀ k, w.frozen? ⟨g, k, none⟩ = false := by
  obtain ⟨g, cap, rfl, hb, hg, hc⟩ := h.form (fun e => by rw [e] at hi; simp at hi)
  refine ⟨g, cap, rfl, hg, hc, ?_, ?_, ?_, fun k => World.ownsRow.frozenAt h k⟩
  · rw [World.ownsRow.cellAt h _ (by omega)]; exact enCells_at l (j := 0) hi (by omega)
  · rw [World.ownsRow.cellAt h _ (by omega)]; exact enCells_at l (j := 1) hi (by omega)
  · rw [World.ownsRow.cellAt h _ (by omega)]; exact enCells_at l (j := 2) hi (by omega)
theorem enCells_set (l : List En) {i : Nat} (hi : i < l.length) (x : Int) : (enCells l).set (i * 3 + 1) (.int .i64 x) = enCells (l.set i ⟨(eAt l i).kind, x, (eAt l i).tag⟩) := by
  induction l generalizing i with
  | nil => simp at hi
  | cons e l ih =>
    cases i with
    | zero => rfl
    | succ i =>
      have h2 := ih (i := i) (by simp at hi; omega)
      rw [show (i + 1) * 3 + 1 = (i * 3 + 1) + 1 + 1 + 1 by omega]
      show _ :: _ :: _ :: (enCells l).set (i * 3 + 1) _ = _ :: _ :: _ :: enCells (l.set i _)
      rw [h2]; rfl
theorem Ents.put (h : Ents w T base v l) {i : Nat} (hi : i < l.length) (x : Int) {g cap n : Nat} (hv : v = .slice (some ⟨g, 0, none⟩) n cap) : Ents (w.setCell ⟨g, i * 3 + 1, none⟩ (.int .i64 x)) T base v (l.set i ⟨(eAt l i).kind, x, (eAt l i).tag⟩) := by
  obtain ⟨g2, cap2, h2, _⟩ := h.form (fun e => by rw [e] at hi; simp at hi)
  rw [hv] at h2
  simp only [Value.slice.injEq, Option.some.injEq, Addr.mk.injEq, and_true] at h2
  obtain ⟨rfl, rfl, rfl⟩ := h2
  subst hv
  have h3 := (World.ownsRow.stored h (i * 3 + 1) (.int .i64 x)).1
  unfold Ents
  rw [List.length_set, ← enCells_set l hi x]
  exact h3
end
theorem plainBool_inv {v : Value} {z : DataW Unit × List MemPlace} (h : plainElem (H := Unit) Tryz.prog 4 v = some z) : ∃ b, v = .bool b ∧ z = (.lit (.bool b), []) := by
  unfold plainElem at h
  rw [Tryz.underlying4] at h
  cases v <;> simp at h
  exact ⟨_, rfl, h.symm⟩
theorem zeroB (w : World) : (zeroValue 4).run Tryz.prog w = .ok (.bool false) w := by kernel_rfl
def FndAt (w : World) (mb n : Nat) (f : Nat → Bool) : Prop :=
  ∃ D : DataW Unit, w.ownsMap Tryz.prog 3 (plainElem (H := Unit) Tryz.prog 4) mb n D ∧ ∀ k : Nat, k < n → D.atKey (.int .i64 (k : Int)) (.lit (.bool false)) = .lit (.bool (f k))
theorem FndAt.only {w w' : World} {mb n : Nat} {f : Nat → Bool} {S : Nat → Prop} (h : FndAt w mb n f) (hg : OnlyP S w w') (hS : ¬ S mb) : FndAt w' mb n f := by
  obtain ⟨D, hD, hf⟩ := h
  have hlt := hD.lt
  obtain ⟨es, clock, hb, r⟩ := hD
  exact ⟨D, ⟨es, clock, (hg.block mb hlt hS).trans hb, r⟩, hf⟩
theorem FndAt.lt {w : World} {mb n : Nat} {f : Nat → Bool} (h : FndAt w mb n f) : mb < w.heap.size := by obtain ⟨D, h, _⟩ := h; exact h.lt
theorem FndAt.made (w : World) (f : Nat → Bool) : FndAt (w.alloc (.map #[] 0)) w.heap.size 0 f :=
  ⟨.map [], World.ownsMap_made _ _ _ _, fun k hk => by omega⟩
theorem FndAt.look {w : World} {mb n : Nat} {f : Nat → Bool} (h : FndAt w mb n f) {k : Nat} (hk : k < n) (hn : n ≤ 1000000) : (Instr.lookup 114 (.map (some mb)) (.int .i64 (k : Int)) false).run Tryz.prog w = .ok (.bool (f k)) w := by
  obtain ⟨D, hD, hf⟩ := h
  obtain ⟨v, ps, h1, h2⟩ := hD.lookup keyedI Tryz.underlying114 (zeroB w) (plainElem_bool Tryz.underlying4 false) (keyI (wfI_mk (k := (k : Int)) (by omega)))
  obtain ⟨c, rfl, hc⟩ := plainBool_inv h2
  rw [hf k hk] at hc
  simp at hc
  rw [h1, hc.1]
theorem FndAt.store {w : World} {mb n : Nat} {f : Nat → Bool} (h : FndAt w mb n f) (hn : n < 1000000) (v : Bool) : ∃ w', (Instr.mapUpdate 114 (.map (some mb)) (.int .i64 (n : Int)) (.bool v)).run Tryz.prog w = .ok () w' ∧ FndAt w' mb (n + 1) (fun j => if j = n then v else f j) ∧ w.grownBy w' (some mb) := by
  obtain ⟨D, hD, hf⟩ := h
  have hwk : wfI (n : Int) := wfI_mk (by omega)
  obtain ⟨w', h1, h2, h3⟩ := hD.update keyedI Tryz.underlying114 (by simp only [maxLen]; omega) (keyI hwk) (plainElem_bool Tryz.underlying4 v)
  have hm := hD.isMap
  refine ⟨w', h1, ⟨_, h2, fun j hj => ?_⟩, h3⟩
  by_cases e : j = n
  · subst e
    show _ = DataW.lit (Lit.bool (if j = j then v else f j))
    rw [if_pos rfl]
    exact Maps.atKey_put_same hm (isKeyI _ hwk) _ _
  · show _ = DataW.lit (Lit.bool (if j = n then v else f j))
    rw [if_neg e, Maps.atKey_put_other (ne_key (by omega))]
    exact hf j (by omega)
structure TbAt (w : World) (b : Nat) (ev qv : Value) (mo : Option Nat) (t : Tb) (kk : Nat) : Prop where
  row : ∃ U, Row w b U [.bool true, ev, qv, .int .i64 (t.ph : Int), .int .i64 (t.nx : Int), .map mo]
  ents : Ents w 123 0 ev t.ents
  q : Ints w 0 qv t.q
  fnd : ∀ mb, mo = some mb → ∃ n f, FndAt w mb n f ∧ n ≤ 20 ∧ (t.ph = 2 → kk ≤ n ∧ ∀ i, i < kk → f i = t.fd i)
  two : t.ph = 2 → 0 < kk → mo ≠ none
  n1 : ∀ g, ev.ownBlock = some g → g ≠ b ∧ mo ≠ some g ∧ qv.ownBlock ≠ some g
  n2 : ∀ g, qv.ownBlock = some g → g ≠ b ∧ mo ≠ some g
  n3 : mo ≠ some b
def TbA (b : Nat) (t : Tb) (kk : Nat) : Asn :=
  ⟨fun w S => ∃ ev qv mo, TbAt w b ev qv mo t kk ∧ ∀ k, S k ↔ (k = b ∨ ev.ownBlock = some k ∨ qv.ownBlock = some k ∨ mo = some k),
   fun ⟨ev, qv, mo, h, hS⟩ ho hd => ⟨ev, qv, mo, ⟨h.row.imp fun U x => ho.row x (fun x => hd b x ((hS b).2 (.inl rfl))), h.ents.onlyP ho (fun k hk x => hd k x ((hS k).2 (.inr (.inl hk)))), h.q.onlyP ho (fun k hk x => hd k x ((hS k).2 (.inr (.inr (.inl hk))))),
     fun mb e => by
       obtain ⟨n, f, h1, h2⟩ := h.fnd mb e
       exact ⟨n, f, h1.only ho (fun x => hd mb x ((hS mb).2 (.inr (.inr (.inr e))))), h2⟩, h.two, h.n1, h.n2, h.n3⟩, hS⟩,
   fun ⟨ev, qv, mo, h, hS⟩ hk => by
     rcases (hS _).1 hk with e | e | e | e
     · obtain ⟨U, hr⟩ := h.row; rw [e]; exact hr.lt
     · exact (h.ents.own _ e).2
     · exact (h.q.own _ e).2
     · obtain ⟨n, f, h1, _⟩ := h.fnd _ e; exact h1.lt⟩
def NowIs (t : Tb) (next : Nat) : Prop := (t.ph = 1 → nxt t.ents 1 next = nxt t.ents 1 t.nx) ∧ (t.ph = 2 → nxt t.ents 2 next = nxt t.ents 2 t.nx) ∧ (t.ph = 4 → nxt t.ents 3 next = nxt t.ents 3 t.nx)
structure TrAt (w : World) (b : Nat) (ev qv wv : Value) (nx : Nat) (wl : List Bool) (t : Tb) : Prop where
  row : ∃ U, Row w b U [ev, qv, .int .i64 (t.ph : Int), .int .i64 (nx : Int), wv]
  ents : Ents w 48 0 ev t.ents
  q : Ints w 0 qv t.q
  wh : Bls w 0 wv wl
  now : NowIs t nx
  two : wl.length ≤ 20 ∧ (t.ph = 2 → wl.length = t.ents.length ∧ ∀ i, i < t.ents.length → (eAt t.ents i).kind = 2 → gB wl i = t.fd i)
  n1 : ∀ g, ev.ownBlock = some g → g ≠ b ∧ wv.ownBlock ≠ some g ∧ qv.ownBlock ≠ some g
  n2 : ∀ g, qv.ownBlock = some g → g ≠ b ∧ wv.ownBlock ≠ some g
  n3 : wv.ownBlock ≠ some b
def TrA (b : Nat) (t : Tb) : Asn :=
  ⟨fun w S => ∃ ev qv wv nx wl, TrAt w b ev qv wv nx wl t ∧ ∀ k, S k ↔ (k = b ∨ ev.ownBlock = some k ∨ qv.ownBlock = some k ∨ wv.ownBlock = some k),
   fun ⟨ev, qv, wv, nx, wl, h, hS⟩ ho hd => ⟨ev, qv, wv, nx, wl, ⟨h.row.imp fun U x => ho.row x (fun x => hd b x ((hS b).2 (.inl rfl))), h.ents.onlyP ho (fun k hk x => hd k x ((hS k).2 (.inr (.inl hk)))), h.q.onlyP ho (fun k hk x => hd k x ((hS k).2 (.inr (.inr (.inl hk))))),
     h.wh.onlyP ho (fun k hk x => hd k x ((hS k).2 (.inr (.inr (.inr hk))))), h.now, h.two, h.n1, h.n2, h.n3⟩, hS⟩,
   fun ⟨ev, qv, wv, nx, wl, h, hS⟩ hk => by
     rcases (hS _).1 hk with e | e | e | e
     · obtain ⟨U, hr⟩ := h.row; rw [e]; exact hr.lt
     · exact (h.ents.own _ e).2
     · exact (h.q.own _ e).2
     · exact (h.wh.own _ e).2⟩
end Go.Proofs.YthflghdaejbdkaaGreat
namespace Go.Proofs.YthflghdaejbdkaaGreat
open Go.RowKit Go.Maps
set_option maxHeartbeats 3200000
set_option maxRecDepth 100000
set_option linter.unusedVariables false
def PL (l : List Asn) (i j k hb p b : Nat) (m : Mk) (t : Tb) (kk : Nat) : List Asn := ML (l.set k (TbA b t kk)) i j hb p m
structure Three (l : List Asn) (i j k : Nat) : Prop where
  two : Two2 l i j
  hk : k < l.length
  ki : k ≠ i
  kj : k ≠ j
theorem Two2.put {l : List Asn} {i j : Nat} (h : Two2 l i j) (k : Nat) (A : Asn) : Two2 (l.set k A) i j := ⟨by rw [List.length_set]; exact h.hi, by rw [List.length_set]; exact h.hj, h.ne⟩
theorem Three.t2 {l : List Asn} {i j k : Nat} (h : Three l i j k) {A : Asn} : Two2 (l.set k A) i j := h.two.put k A
section
variable {l : List Asn} {i j k hb p b : Nat} {m : Mk} {t : Tb} {kk : Nat} {w0 w w' : World}
theorem PL.self (h : Three l i j k) : (PL l i j k hb p b m t kk)[k]? = some (TbA b t kk) := by
  unfold PL ML
  rw [List.getElem?_set_ne (Ne.symm h.kj), List.getElem?_set_ne (Ne.symm h.ki), List.getElem?_set_self h.hk]
theorem PL.put (h : Three l i j k) (t' : Tb) (kk' : Nat) : (PL l i j k hb p b m t kk).set k (TbA b t' kk') = PL l i j k hb p b m t' kk' := by
  unfold PL ML
  rw [List.set_comm _ _ (Ne.symm h.kj), List.set_comm _ _ (Ne.symm h.ki), List.set_set]
theorem TbAt.same {ev qv ev2 qv2 : Value} {mo mo2 : Option Nat} {t2 : Tb} {k2 : Nat} (h : TbAt w b ev qv mo t kk) (h2 : TbAt w b ev2 qv2 mo2 t2 k2) : ev2 = ev ∧ qv2 = qv ∧ mo2 = mo := by
  obtain ⟨U, h3⟩ := h.row
  obtain ⟨U2, h4⟩ := h2.row
  have e1 := (h3.cell 1 rfl).symm.trans (h4.cell 1 rfl)
  have e2 := (h3.cell 2 rfl).symm.trans (h4.cell 2 rfl)
  have e3 := (h3.cell 5 rfl).symm.trans (h4.cell 5 rfl)
  simp at e1 e2 e3
  exact ⟨e1.symm, e2.symm, e3.symm⟩
theorem PL.tb (h : Three l i j k) (hf : Fam w0 w (PL l i j k hb p b m t kk)) : ∃ ev qv mo, TbAt w b ev qv mo t kk := by
  obtain ⟨S, ⟨ev, qv, mo, h1, _⟩, _⟩ := hf.get k (PL.self h)
  exact ⟨ev, qv, mo, h1⟩
def tbS (b : Nat) (ev qv : Value) (mo : Option Nat) (x : Nat) : Prop := x = b ∨ ev.ownBlock = some x ∨ qv.ownBlock = some x ∨ mo = some x
theorem PL.tbT (h : Three l i j k) (hf : Fam w0 w (PL l i j k hb p b m t kk)) {ev qv : Value} {mo : Option Nat} (hm : TbAt w b ev qv mo t kk) (ev' qv' : Value) (mo' : Option Nat) (t' : Tb) (kk' : Nat) (h1 : TbAt w' b ev' qv' mo' t' kk')
    (h2 : ∀ x, tbS b ev' qv' mo' x → tbS b ev qv mo x ∨ w.heap.size ≤ x) (h3 : OnlyP (tbS b ev qv mo) w w') : Fam w0 w' (PL l i j k hb p b m t' kk') := by
  rw [← PL.put h t' kk' (t := t) (kk := kk)]
  refine hf.turn k (PL.self h) fun S hS => ?_
  obtain ⟨ev2, qv2, mo2, hm2, hS⟩ := hS
  obtain ⟨rfl, rfl, rfl⟩ := hm.same hm2
  exact ⟨tbS b ev' qv' mo', ⟨ev', qv', mo', h1, fun k => Iff.rfl⟩, fun k hk => (h2 k hk).imp (fun x => (hS k).2 x) id, h3.mono (fun k hk => .inl ((hS k).2 hk))⟩
theorem TbAt.cells {ev qv : Value} {mo : Option Nat} (h : TbAt w b ev qv mo t kk) : w.cell? ⟨b, 0, none⟩ = some (.bool true) ∧ w.cell? ⟨b, 1, none⟩ = some ev ∧ w.cell? ⟨b, 2, none⟩ = some qv ∧ w.cell? ⟨b, 3, none⟩ = some (.int .i64 (t.ph : Int)) ∧ w.cell? ⟨b, 4, none⟩ = some (.int .i64 (t.nx : Int)) ∧ w.cell? ⟨b, 5, none⟩ = some (.map mo) ∧ ∀ k, w.frozen? ⟨b, k, none⟩ = false := by
  obtain ⟨U, h⟩ := h.row
  exact ⟨h.cell 0 rfl, h.cell 1 rfl, h.cell 2 rfl, h.cell 3 rfl, h.cell 4 rfl, h.cell 5 rfl, fun k => h.free k⟩
theorem TbAt.rest {ev qv : Value} {mo : Option Nat} (h : TbAt w b ev qv mo t kk) (ho : Only [b] w w') : Ents w' 123 0 ev t.ents ∧ Ints w' 0 qv t.q ∧ ∀ mb, mo = some mb → ∃ n f, FndAt w' mb n f ∧ n ≤ 20 ∧ (t.ph = 2 → kk ≤ n ∧ ∀ i, i < kk → f i = t.fd i) :=
  ⟨h.ents.only ho (fun g hg x => (h.n1 g hg).1 (by simpa using x)), h.q.only ho (fun g hg x => (h.n2 g hg).1 (by simpa using x)), fun mb e => by
    obtain ⟨n, f, h1, h2⟩ := h.fnd mb e
    refine ⟨n, f, h1.only (ho.toP (S := fun x => x = b) (fun x hx => .inl (by simpa using hx))) (fun x => h.n3 (by rw [e, x])), h2⟩⟩
theorem TbAt.only0 {ev qv : Value} {mo : Option Nat} (h : TbAt w b ev qv mo t kk) (ho : Only [] w w') : TbAt w' b ev qv mo t kk := by
  obtain ⟨h1, h2, h3⟩ := h.rest (ho.mono (by simp))
  exact ⟨h.row.imp fun U x => ho.row x (by simp), h1, h2, h3, h.two, h.n1, h.n2, h.n3⟩
theorem PL.setNx (h : Three l i j k) (hf : Fam w0 w (PL l i j k hb p b m t kk)) (n : Nat) : Fam w0 (w.setCell ⟨b, 4, none⟩ (.int .i64 (n : Int))) (PL l i j k hb p b m (t.at t.ph n) kk) := by
  obtain ⟨ev, qv, mo, ht⟩ := PL.tb h hf
  have ho : Only [b] w (w.setCell ⟨b, 4, none⟩ (.int .i64 (n : Int))) := (Only.refl _ w).set (.inl (by simp)) _
  obtain ⟨h1, h2, h3⟩ := ht.rest ho
  exact PL.tbT h hf ht ev qv mo _ _ ⟨ht.row.imp fun U x => x.set 4 _, h1, h2, h3, ht.two, ht.n1, ht.n2, ht.n3⟩ (fun x hx => .inl hx) (ho.toP (fun x hx => .inl (.inl (by simpa using hx))))
theorem PL.setPh (h : Three l i j k) (hf : Fam w0 w (PL l i j k hb p b m t kk)) (n : Nat) : Fam w0 (w.setCell ⟨b, 3, none⟩ (.int .i64 (n : Int))) (PL l i j k hb p b m (t.at n t.nx) 0) := by
  obtain ⟨ev, qv, mo, ht⟩ := PL.tb h hf
  have ho : Only [b] w (w.setCell ⟨b, 3, none⟩ (.int .i64 (n : Int))) := (Only.refl _ w).set (.inl (by simp)) _
  obtain ⟨h1, h2, h3⟩ := ht.rest ho
  exact PL.tbT h hf ht ev qv mo _ _ ⟨ht.row.imp fun U x => x.set 3 _, h1, h2, fun mb e => by
    obtain ⟨n, f, h4, h5, _⟩ := h3 mb e
    exact ⟨n, f, h4, h5, fun _ => ⟨Nat.zero_le _, fun i hi => by omega⟩⟩, fun _ x => absurd x (by omega), ht.n1, ht.n2, ht.n3⟩ (fun x hx => .inl hx) (ho.toP (fun x hx => .inl (.inl (by simpa using hx))))
theorem PL.anyK (h : Three l i j k) (hf : Fam w0 w (PL l i j k hb p b m t kk)) (hp : t.ph ≠ 2) (kk' : Nat) (fd : Nat → Bool) : Fam w0 w (PL l i j k hb p b m ⟨t.ents, t.q, t.ph, t.nx, fd⟩ kk') := by
  obtain ⟨ev, qv, mo, ht⟩ := PL.tb h hf
  exact PL.tbT h hf ht ev qv mo _ _ ⟨ht.row, ht.ents, ht.q, fun mb e => by
    obtain ⟨n, f, h4, h5, _⟩ := ht.fnd mb e
    exact ⟨n, f, h4, h5, fun e => absurd e hp⟩, fun x => absurd x hp, ht.n1, ht.n2, ht.n3⟩ (fun x hx => .inl hx) (OnlyP.refl _ _)
theorem PL.fd0 (h : Three l i j k) (hf : Fam w0 w (PL l i j k hb p b m t 0)) (fd : Nat → Bool) : Fam w0 w (PL l i j k hb p b m ⟨t.ents, t.q, t.ph, t.nx, fd⟩ 0) := by
  obtain ⟨ev, qv, mo, ht⟩ := PL.tb h hf
  exact PL.tbT h hf ht ev qv mo _ _ ⟨ht.row, ht.ents, ht.q, fun mb e => by
    obtain ⟨n, f, h4, h5, h6⟩ := ht.fnd mb e
    exact ⟨n, f, h4, h5, fun e => ⟨Nat.zero_le _, fun i hi => by omega⟩⟩, fun _ x => absurd x (by omega), ht.n1, ht.n2, ht.n3⟩ (fun x hx => .inl hx) (OnlyP.refl _ _)
theorem PL.setMap (h : Three l i j k) (hf : Fam w0 w (PL l i j k hb p b m t kk)) : Fam w0 ((w.alloc (.map #[] 0)).setCell ⟨b, 5, none⟩ (.map (some w.heap.size))) (PL l i j k hb p b m t 0) := by
  obtain ⟨ev, qv, mo, ht⟩ := PL.tb h hf
  have ho0 : Only [] w (w.alloc (.map #[] 0)) := (Only.refl _ w).alloc _
  have ho : Only [b] w ((w.alloc (.map #[] 0)).setCell ⟨b, 5, none⟩ (.map (some w.heap.size))) := ((Only.refl _ w).alloc _).set (.inl (by simp)) _
  obtain ⟨h1, h2, h3⟩ := ht.rest ho
  have hbl : b < w.heap.size := by obtain ⟨U, hr⟩ := ht.row; exact hr.lt
  refine PL.tbT h hf ht ev qv (some w.heap.size) _ _ ⟨ht.row.imp fun U x => (x.alloc _).set 5 _, h1, h2, fun mb e => ?_, fun _ x => absurd x (by omega), fun g hg => ⟨(ht.n1 g hg).1, fun e => ?_, (ht.n1 g hg).2.2⟩, fun g hg => ⟨(ht.n2 g hg).1, fun e => ?_⟩, fun e => ?_⟩ (fun x hx => ?_) (ho.toP (fun x hx => .inl (.inl (by simpa using hx))))
  · cases e
    have hq : Only [b] (w.alloc (.map #[] 0)) ((w.alloc (.map #[] 0)).setCell ⟨b, 5, none⟩ (.map (some w.heap.size))) := (Only.refl _ _).set (.inl (by simp)) _
    exact ⟨0, t.fd, (FndAt.made w t.fd).only (hq.toP (S := fun x => x = b) (fun x hx => .inl (by simpa using hx))) (fun x => by omega), by omega, fun _ => ⟨Nat.le_refl _, fun i hi => rfl⟩⟩
  · cases e; have := (ht.ents.own _ hg).2; omega
  · cases e; have := (ht.q.own _ hg).2; omega
  · cases e; omega
  · rcases hx with hx | hx | hx | hx
    · exact .inl (.inl hx)
    · exact .inl (.inr (.inl hx))
    · exact .inl (.inr (.inr (.inl hx)))
    · cases hx; exact .inr (Nat.le_refl _)
theorem PL.setFnd (h : Three l i j k) (hf : Fam w0 w (PL l i j k hb p b m t kk)) {ev qv : Value} {mb : Nat} (ht : TbAt w b ev qv (some mb) t kk) {f : Nat → Bool} (hm : FndAt w mb kk f) (hff : ∀ i, i < kk → f i = t.fd i) (hk : kk < 20) : ∃ w', (Instr.mapUpdate 114 (.map (some mb)) (.int .i64 (kk : Int)) (.bool (t.fd kk))).run Tryz.prog w = .ok () w' ∧ FndAt w' mb (kk + 1) (fun j => if j = kk then t.fd kk else f j) ∧ Only [mb] w w' ∧ Fam w0 w' (PL l i j k hb p b m t (kk + 1)) ∧ TbAt w' b ev qv (some mb) t (kk + 1) := by
  obtain ⟨w', h1, h2, h3⟩ := hm.store (by omega) (t.fd kk)
  have ho : Only [mb] w w' := (Only.refl _ w).grown h3 (fun x hx => .inl (by simp at hx; simp [hx]))
  have hT : TbAt w' b ev qv (some mb) t (kk + 1) := ⟨ht.row.imp fun U x => ho.row x (by have := ht.n3; simp at this ⊢; exact fun e => this e.symm), ht.ents.only ho (fun g hg x => (ht.n1 g hg).2.1 (by simp at x; rw [x])), ht.q.only ho (fun g hg x => (ht.n2 g hg).2 (by simp at x; rw [x])), fun mb2 e => by
      cases e
      refine ⟨kk + 1, _, h2, by omega, fun _ => ⟨Nat.le_refl _, fun i hi => ?_⟩⟩
      by_cases e : i = kk
      · subst e; exact if_pos rfl
      · show (if i = kk then t.fd kk else f i) = _
        rw [if_neg e]; exact hff i (by omega), fun _ _ => by simp, ht.n1, ht.n2, ht.n3⟩
  exact ⟨w', h1, h2, ho, PL.tbT h hf ht ev qv (some mb) _ _ hT (fun x hx => .inl hx) (ho.toP (fun x hx => .inl (.inr (.inr (.inr (by simp at hx; rw [hx])))))), hT⟩
end
section
variable {l : List Asn} {i j k hb p b : Nat} {m : Mk} {t : Tb} {kk : Nat} {w0 w : World}
theorem tnone_rep (w : World) {b : Nat} (h : w.cell? ⟨b, 0, none⟩ = some (.bool true)) : Calls Tryz.prog 73 #[.pointer (some ⟨b, 0, none⟩)] w (Exact w (.bool false)) := by
  refine calls_abs fun R hR => ?_
  go_enter Tryz.func73, Tryz.ntmps73
  go_wp2_with fail
  exact hR.out _ _ ⟨rfl, rfl⟩
theorem infoEn : (Tryz.prog.info? 123).map (fun i => (i.zero, i.size, i.bytes)) = some (some (.agg #[.int .i64 0, .int .i64 0, .int .i64 0]), 3, 24) := by kernel_rfl
theorem sizeEn : (Tryz.prog.info? 123).map (·.size) = some 3 := by kernel_rfl
end
end Go.Proofs.YthflghdaejbdkaaGreat
namespace Go.Proofs.YthflghdaejbdkaaGreat
open Go.RowKit Go.Maps
set_option maxHeartbeats 3200000
set_option maxRecDepth 100000
set_option linter.unusedVariables false
section
variable {l : List Asn} {i j k hb p b : Nat} {m : Mk} {t : Tb} {kk : Nat} {w0 w : World}
theorem kindOf_any (w : World) (n : Nat) : Calls Tryz.prog 160 #[.int .i64 (n : Int)] w (Exact w (.int .i64 (if n = 4 then 3 else n : Nat))) := by
  refine calls_abs fun R hR => ?_
  by_cases h : n = 4
  · subst h
    go_enter Tryz.func160, Tryz.ntmps160
    go_wp2_with fail
    exact hR.out _ _ ⟨rfl, rfl⟩
  · rw [if_neg h] at hR
    have h2 : ((n : Int) == 4) = false := by rw [beq_eq_false_iff_ne]; omega
    go_enter Tryz.func160, Tryz.ntmps160
    go_wp2_with fail
    exact hR.out _ _ ⟨rfl, rfl⟩
theorem Mk.isW_eq (hk : m.M.Ok) (x : Int) : m.isW x = (decide (x ≠ 0) && (decide ((m.color x).2 = 0) && decide ((m.color x).1 = 0))) := by
  unfold Mk.isW Mk.color
  by_cases h0 : x = 0
  · subst h0; rw [fst_zero hk]; simp
  · cases h : (m.M.ob x).isSome <;> simp [h0]
theorem isWhite_rep (w : World) (T2 : Two2 l i j) (hf : Fam w0 w (ML l i j hb p m)) (x : Int) (hx : wfI x) : Calls Tryz.prog 151 #[.pointer (some ⟨p, 0, none⟩), .int .i64 x] w (Same w (.bool (m.isW x))) := by
  refine calls_abs fun R hR => ?_
  have cc := mcolor_rep w T2 hf x hx
  obtain ⟨hk, _⟩ := ML.ph T2 hf
  rw [Mk.isW_eq hk] at hR
  clear hk hf
  generalize m.color x = r at *
  obtain ⟨c, e⟩ := r
  by_cases h0 : x = 0
  · have hh : (decide (x ≠ 0) && (decide (e = 0) && decide (c = 0))) = false := by simp [h0]
    simp only at hR
    rw [hh] at hR
    subst h0
    go_enter Tryz.func151, Tryz.ntmps151
    go_wp2_with fail
    refine cc.mono ?_
    rintro e _ ⟨rfl, n, rfl⟩
    clear cc hh
    go_wp2_with fail
    exact hR.out _ _ ⟨rfl, n, rfl⟩
  · have hx0 : (x != 0) = true := by simp [h0]
    by_cases h1 : e = 0
    · by_cases h2 : c = 0
      · have hh : (decide (x ≠ 0) && (decide (e = 0) && decide (c = 0))) = true := by simp [h0, h1, h2]
        simp only at hR
        rw [hh] at hR
        subst h1 h2
        go_enter Tryz.func151, Tryz.ntmps151
        go_wp2_with fail
        refine cc.mono ?_
        rintro e _ ⟨rfl, n, rfl⟩
        clear cc hh
        go_wp2_with fail
        exact hR.out _ _ ⟨rfl, n, rfl⟩
      · have hh : (decide (x ≠ 0) && (decide (e = 0) && decide (c = 0))) = false := by simp [h2]
        simp only at hR
        rw [hh] at hR
        subst h1
        have hc : (c == 0) = false := by rw [beq_eq_false_iff_ne]; exact h2
        go_enter Tryz.func151, Tryz.ntmps151
        go_wp2_with fail
        refine cc.mono ?_
        rintro e _ ⟨rfl, n, rfl⟩
        clear cc hh
        go_wp2_with fail
        exact hR.out _ _ ⟨rfl, n, rfl⟩
    · have hh : (decide (x ≠ 0) && (decide (e = 0) && decide (c = 0))) = false := by simp [h1]
      simp only at hR
      rw [hh] at hR
      have hc : (e == 0) = false := by rw [beq_eq_false_iff_ne]; exact h1
      go_enter Tryz.func151, Tryz.ntmps151
      go_wp2_with fail
      refine cc.mono ?_
      rintro e _ ⟨rfl, n, rfl⟩
      clear cc hh
      go_wp2_with fail
      exact hR.out _ _ ⟨rfl, n, rfl⟩
end
end Go.Proofs.YthflghdaejbdkaaGreat
namespace Go.Proofs.YthflghdaejbdkaaGreat
open Go.RowKit Go.Maps
set_option maxHeartbeats 3200000
set_option maxRecDepth 100000
set_option linter.unusedVariables false
theorem tnew_any (w : World) : Calls Tryz.prog 84 #[] w (fun e w' => e = .returned (.pointer (some ⟨w.heap.size, 0, none⟩)) ∧ w' = w.alloc (.cells #[.bool true, .slice none 0 0, .slice none 0 0, .int .i64 0, .int .i64 0, .map none] 119)) := by
  refine calls_abs fun R hR => ?_
  go_enter Tryz.func84, Tryz.ntmps84
  go_wp2_with fail
  exact hR.out _ _ ⟨rfl, rfl⟩
theorem tb_born (w : World) : Born w (w.alloc (.cells #[.bool true, .slice none 0 0, .slice none 0 0, .int .i64 0, .int .i64 0, .map none] 119)) (TbA w.heap.size Tb.new 0) :=
  ⟨(Only.refl [] w).alloc _, fun k => k = w.heap.size ∨ (Value.slice none 0 0).ownBlock = some k ∨ (Value.slice none 0 0).ownBlock = some k ∨ (none : Option Nat) = some k, ⟨.slice none 0 0, .slice none 0 0, none, ⟨⟨_, Row.new w _ _⟩, Ents.nil _ _ _, Ints.nil _ _, fun mb e => by (cases e), fun _ h => by omega, fun g hg => by (cases hg), fun g hg => by (cases hg), fun e => by (cases e)⟩, fun k => Iff.rfl⟩, fun k hk => by
    rcases hk with hk | hk | hk | hk
    · omega
    · cases hk
    · cases hk
    · cases hk⟩
section
variable {l : List Asn} {i j k hb p b : Nat} {m : Mk} {t : Tb} {kk : Nat} {w0 w : World}
end
end Go.Proofs.YthflghdaejbdkaaGreat
