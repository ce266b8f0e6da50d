/- Lemmas of this claim. -/
import Derived.Test.YthflghdaejbdkaaGreatXfObjG
import Derived.Test.YthflghdaejbdkaaGreatXfRBlockE
import Derived.Deep.AppendLies
import Derived.Deep.Upon
import Derived.Test.YthflghdaejbdkaaGreatXfLib
import Derived.Test.YthflghdaejbdkaaGreatXfInts
import Derived.Test.YthflghdaejbdkaaGreatXfOMaps
import Derived.Lib.SmallJoins
import Derived.Test.YthflghdaejbdkaaGreatXfOFull
namespace Go.Proofs.YthflghdaejbdkaaGreat
open Go.RowKit Go.Maps
set_option maxHeartbeats 1600000
set_option maxRecDepth 100000
set_option linter.unusedVariables false
inductive Gb | mem | pq | pk | pc | pl | objs | rb (h : Int) | sl (h : Int) | bl (h : Int)
  deriving DecidableEq
def gFld (o : Option Th) (rv sv bv : Value) : Nat → Value
  | 0 => .int .i64 (match o with | none => 0 | some o => o.kind)
  | 1 => .int .i64 (match o with | none => 0 | some o => o.cls)
  | 2 => match o with | none => .slice none 0 0 | some _ => rv
  | 3 => match o with | none => .slice none 0 0 | some _ => sv
  | _ => match o with | none => .slice none 0 0 | some _ => bv
structure GX where
  q : Nat
  k : Nat
  c : Nat
  l : Nat
  og : Nat
  oc : Nat
  rv : Int → Value
  sv : Int → Value
  bv : Int → Value
structure GTh (w : World) (L : Nat → Option Gb) (h : Int) (rv sv bv : Value) (o : Th) : Prop where
  rb : Bls w 0 rv o.refs
  Lr : ∀ g, rv.ownBlock = some g → L g = some (.rb h)
  sl : Ints w 0 sv o.slots
  Ls : ∀ g, sv.ownBlock = some g → L g = some (.sl h)
  bl : Ints w 0 bv o.blocks
  Lb : ∀ g, bv.ownBlock = some g → L g = some (.bl h)
structure GRep (w : World) (L : Nat → Option Gb) (hb : Nat) (M : Hp) (X : GX) : Prop where
  lt : ∀ k, L k ≠ none → k < w.heap.size
  mem : ∃ T, Row w hb T [.slice (some ⟨X.og, 0, none⟩) 193 X.oc, .pointer (some ⟨X.q, 0, none⟩)]
  Lm : L hb = some .mem
  pool : RRep w X.q X.k X.c X.l M.P
  Lq : L X.q = some .pq
  Lk : L X.k = some .pk
  Lc : L X.c = some .pc
  Ll : L X.l = some .pl
  ob : ∃ T cs, Row w X.og T cs ∧ ∀ i : Nat, i < 193 → ∀ j, j < 5 → cs[i * 5 + j]? = some (gFld (M.ob i) (X.rv i) (X.sv i) (X.bv i) j)
  Lo : L X.og = some .objs
  th : ∀ h o, M.ob h = some o → GTh w L h (X.rv h) (X.sv h) (X.bv h) o
section
variable {w w' : World} {S : Nat → Prop} {L L' : Nat → Option Gb} {hb : Nat} {M : Hp} {X : GX}
theorem RRep.onlyP {q k c l : Nat} {P : Pl} (h : RRep w q k c l P) (o : OnlyP S w w') (h1 : ¬ S q) (h2 : ¬ S k) (h3 : ¬ S c) (h4 : ¬ S l) : RRep w' q k c l P :=
  ⟨by obtain ⟨T, c1, c2, c3, r⟩ := h.hq; exact ⟨T, c1, c2, c3, o.row r h1⟩, h.rk.imp fun _ x => x.imp fun _ y => o.row y h2, h.rc.imp fun _ x => x.imp fun _ y => o.row y h3, h.rl.imp fun _ x => x.imp fun _ y => o.row y h4,
   fun i hi => o.cell (h.kind i hi) h2, fun i hi j hj => o.cell (h.cells i hi j hj) h3, fun i hi j hj => o.cell (h.live i hi j hj) h4, h.ne, h.n1, h.n24⟩
theorem GTh.only {h : Int} {rv sv bv : Value} {o : Th} (k : GTh w L h rv sv bv o) (hg : OnlyP S w w') (hS : ∀ x, S x → L x ≠ some (.rb h) ∧ L x ≠ some (.sl h) ∧ L x ≠ some (.bl h)) : GTh w' L h rv sv bv o :=
  ⟨k.rb.onlyP hg (fun g hgv x => (hS g x).1 (k.Lr g hgv)), k.Lr, k.sl.onlyP hg (fun g hgv x => (hS g x).2.1 (k.Ls g hgv)), k.Ls, k.bl.onlyP hg (fun g hgv x => (hS g x).2.2 (k.Lb g hgv)), k.Lb⟩
theorem GRep.only (h : GRep w L hb M X) (hg : OnlyP S w w') (hS : ∀ k, S k → L k = none) : GRep w' L hb M X := by
  have hne : ∀ k ℓ, S k → L k ≠ some ℓ := fun k ℓ hk e => by rw [hS k hk] at e; cases e
  obtain ⟨T1, m1⟩ := h.mem
  obtain ⟨T2, cs, m2, n2⟩ := h.ob
  exact ⟨fun k hk => Nat.lt_of_lt_of_le (h.lt k hk) hg.size, ⟨T1, hg.row m1 (fun x => hne _ _ x h.Lm)⟩, h.Lm, h.pool.onlyP hg (fun x => hne _ _ x h.Lq) (fun x => hne _ _ x h.Lk) (fun x => hne _ _ x h.Lc) (fun x => hne _ _ x h.Ll), h.Lq, h.Lk, h.Lc, h.Ll,
    ⟨T2, cs, hg.row m2 (fun x => hne _ _ x h.Lo), n2⟩, h.Lo, fun k t hk => (h.th k t hk).only hg (fun x hx => ⟨hne x _ hx, hne x _ hx, hne x _ hx⟩)⟩
theorem glab_of {ℓ : Gb} {g : Nat} (hL : ∀ k, L k ≠ none → L' k = L k) (h : L g = some ℓ) : L' g = some ℓ := by rw [hL g (by rw [h]; simp)]; exact h
theorem GTh.lab {h : Int} {rv sv bv : Value} {o : Th} (k : GTh w L h rv sv bv o) (hL : ∀ k, L k ≠ none → L' k = L k) : GTh w L' h rv sv bv o :=
  ⟨k.rb, fun g hg => glab_of hL (k.Lr g hg), k.sl, fun g hg => glab_of hL (k.Ls g hg), k.bl, fun g hg => glab_of hL (k.Lb g hg)⟩
end
section
variable {L : Nat → Option Gb} {hb : Nat} {M : Hp} {X : GX}
end
end Go.Proofs.YthflghdaejbdkaaGreat
namespace Go.Proofs.YthflghdaejbdkaaGreat
open Go.RowKit Go.Maps
set_option maxHeartbeats 1600000
set_option maxRecDepth 100000
set_option linter.unusedVariables false
theorem Bls.cellsOf {w : World} {base : Nat} {v : Value} {l : List Bool} (h : Bls w base v l) (h0 : 1 ≤ l.length) : ∃ g cap, v = .slice (some ⟨g, 0, none⟩) l.length cap ∧ ∀ i, i < l.length → w.cell? ⟨g, i, none⟩ = some (.bool (gB l i)) := by
  rcases h.form with ⟨_, e⟩ | ⟨g, cap, e, _, _, _, hc⟩
  · rw [e] at h0; simp at h0
  · exact ⟨g, cap, e, hc⟩
section
variable {L : Nat → Option Gb} {hb : Nat} {M : Hp} {X : GX}
end
end Go.Proofs.YthflghdaejbdkaaGreat
namespace Go.Proofs.YthflghdaejbdkaaGreat
open Go.RowKit Go.Maps
set_option maxHeartbeats 3200000
set_option maxRecDepth 100000
set_option linter.unusedVariables false
section
variable {L : Nat → Option Gb} {hb : Nat} {M : Hp} {X : GX}
end
end Go.Proofs.YthflghdaejbdkaaGreat
namespace Go.Proofs.YthflghdaejbdkaaGreat
open Go.RowKit Go.Maps
set_option maxHeartbeats 3200000
set_option maxRecDepth 100000
set_option linter.unusedVariables false
section
variable {L : Nat → Option Gb} {hb : Nat} {M : Hp} {X : GX}
end
end Go.Proofs.YthflghdaejbdkaaGreat
namespace Go.Proofs.YthflghdaejbdkaaGreat
open Go.RowKit Go.Maps
set_option maxHeartbeats 3200000
set_option maxRecDepth 100000
set_option linter.unusedVariables false
theorem Hp.handlesN_len (M : Hp) (k : Nat) : (M.handlesN k).length ≤ k := by
  induction k with
  | zero => exact Nat.le_refl _
  | succ k ih =>
    show (M.handlesN k ++ _).length ≤ _
    rw [List.length_append]
    split <;> simp <;> omega
section
variable {L : Nat → Option Gb} {hb : Nat} {M : Hp} {X : GX}
end
end Go.Proofs.YthflghdaejbdkaaGreat
namespace Go.Proofs.YthflghdaejbdkaaGreat
open Go.RowKit Go.Maps
set_option maxHeartbeats 3200000
set_option maxRecDepth 100000
set_option linter.unusedVariables false
end Go.Proofs.YthflghdaejbdkaaGreat
namespace Go.Proofs.YthflghdaejbdkaaGreat
open Go.RowKit Go.Maps
set_option maxHeartbeats 3200000
set_option maxRecDepth 100000
set_option linter.unusedVariables false
section
variable {w w' : World} {L : Nat → Option Gb} {hb : Nat} {X : GX} {P : Pl} {ob : Int → Option Th}
end
end Go.Proofs.YthflghdaejbdkaaGreat
namespace Go.Proofs.YthflghdaejbdkaaGreat
open Go.RowKit Go.Maps
set_option maxHeartbeats 6400000
set_option maxRecDepth 100000
set_option linter.unusedVariables false
def obZero : Value := .agg #[.int .i64 0, .int .i64 0, .slice none 0 0, .slice none 0 0, .slice none 0 0]
theorem infoObj : (Tryz.prog.info? 217).map (fun i => (i.zero, i.size, i.bytes)) = some (some obZero, 5, 88) := by kernel_rfl
theorem made_obj {n i j : Nat} (hi : i < n) (hj : j < 5) : (madeCells obZero.cells (n * 5)).toList[i * 5 + j]? = some (gFld none (.slice none 0 0) (.slice none 0 0) (.slice none 0 0) j) := by
  have h1 : obZero.cells.size = 5 := rfl
  have hx : i * 5 + j < n * 5 := by omega
  have hm : (i * 5 + j) % 5 = j := by omega
  have h3 : obZero.cells[j]? = some (gFld none (.slice none 0 0) (.slice none 0 0) (.slice none 0 0) j) := by
    match j, hj with
    | 0, _ => rfl
    | 1, _ => rfl
    | 2, _ => rfl
    | 3, _ => rfl
    | 4, _ => rfl
    | j + 5, hj => omega
  rw [Array.getElem?_toList]
  unfold madeCells
  rw [Array.getElem?_map, show (Array.range (n * 5))[i * 5 + j]? = some (i * 5 + j) by simp [hx]]
  simp only [Option.map_some, h1]
  rw [getElem!_def, hm, h3]
theorem GRep.start {w' : World} {hb og q k c l v T T2 : Nat} {P : Pl} {cs : List Value} (hp : RRep w' q k c l P) (hr : Row w' hb T [.slice (some ⟨og, 0, none⟩) 193 193, .pointer (some ⟨q, 0, none⟩)]) (ho : Row w' og T2 cs)
    (hc : ∀ i : Nat, i < 193 → ∀ j, j < 5 → cs[i * 5 + j]? = some (gFld none (.slice none 0 0) (.slice none 0 0) (.slice none 0 0) j))
    (h1 : v ≤ q ∧ v ≤ k ∧ v ≤ c ∧ v ≤ l ∧ v ≤ og ∧ v ≤ hb) (d1 : q ≠ og ∧ k ≠ og ∧ c ≠ og ∧ l ≠ og ∧ q ≠ hb ∧ k ≠ hb ∧ c ≠ hb ∧ l ≠ hb ∧ og ≠ hb) :
    ∃ L' X', GRep w' L' hb ⟨P, fun _ => none⟩ X' ∧ (∀ k, L' k ≠ none → v ≤ k) := by
  obtain ⟨n1, n2, n3, n4, n5, n6⟩ := hp.ne
  obtain ⟨_, _, _, _, _, _, _, _, _, f1, f2, f3, f4⟩ := hp.facts
  obtain ⟨e1, e2, e3, e4, e5, e6, e7, e8, e9⟩ := d1
  have hl1 := hr.lt
  have hl2 := ho.lt
  obtain ⟨L', hL'⟩ : ∃ L' : Nat → Option Gb, L' = fun j => if j = hb then some .mem else if j = og then some .objs else if j = q then some .pq else if j = k then some .pk else if j = c then some .pc else if j = l then some .pl else none := ⟨_, rfl⟩
  have hin : ∀ j, L' j ≠ none → j = hb ∨ j = og ∨ j = q ∨ j = k ∨ j = c ∨ j = l := fun j hj => by
    rw [hL'] at hj
    simp only at hj
    by_cases a1 : j = hb
    · exact .inl a1
    · by_cases a2 : j = og
      · exact .inr (.inl a2)
      · by_cases a3 : j = q
        · exact .inr (.inr (.inl a3))
        · by_cases a4 : j = k
          · exact .inr (.inr (.inr (.inl a4)))
          · by_cases a5 : j = c
            · exact .inr (.inr (.inr (.inr (.inl a5))))
            · by_cases a6 : j = l
              · exact .inr (.inr (.inr (.inr (.inr a6))))
              · simp [a1, a2, a3, a4, a5, a6] at hj
  refine ⟨L', ⟨q, k, c, l, og, 193, fun _ => .slice none 0 0, fun _ => .slice none 0 0, fun _ => .slice none 0 0⟩, ⟨fun j hj => ?_, ⟨T, hr⟩, by rw [hL']; simp, hp, by rw [hL']; simp [*], by rw [hL']; simp [*, Ne.symm n1], by rw [hL']; simp [*, Ne.symm n2, Ne.symm n4], by rw [hL']; simp [*, Ne.symm n3, Ne.symm n5, Ne.symm n6], ⟨T2, cs, ho, hc⟩, by rw [hL']; simp [*], fun h o hk => by cases hk⟩, fun j hj => ?_⟩
  · rcases hin j hj with rfl | rfl | rfl | rfl | rfl | rfl <;> assumption
  · rcases hin j hj with rfl | rfl | rfl | rfl | rfl | rfl <;> omega
theorem gnew_bad (w : World) (n : Int) (h : n < 1 ∨ 24 < n) : Calls Tryz.prog 89 #[.int .i64 n] w (Exact w (.tuple #[.pointer none, .int .i64 1])) := by
  refine calls_abs fun R hR => ?_
  have h1 := rnew_bad w n h
  clear h
  go_enter Tryz.func89, Tryz.ntmps89
  go_wp2_with fail
  refine h1.mono ?_
  rintro e _ ⟨rfl, rfl⟩
  go_wp2_with fail
  exact hR.out _ _ ⟨rfl, rfl⟩
theorem gnew_good (w : World) (n : Nat) (h1 : 1 ≤ n) (h24 : n ≤ 24) : Calls Tryz.prog 89 #[.int .i64 n] w fun e w' =>
    ∃ hb L X, e = .returned (.tuple #[.pointer (some ⟨hb, 0, none⟩), .int .i64 0]) ∧ GRep w' L hb (Hp.new n) X ∧ (∀ k, L k ≠ none → w.heap.size ≤ k) ∧ Only [] w w' := by
  refine calls_abs fun R hR => ?_
  have h2 := rnew_yes w n h1 h24
  obtain ⟨i0, hi0, hz0, hz1, hz2⟩ := info_parts infoObj
  obtain ⟨C, hC⟩ : ∃ C : Array Value, C = madeCells obZero.cells (193 * 5) := ⟨_, rfl⟩
  have hmk : ∀ wx, (Instr.makeSlice 207 (.int .i64 193) (.int .i64 193)).run Tryz.prog wx = .ok (.slice (some ⟨wx.heap.size, 0, none⟩) 193 193) (wx.alloc (.cells C 217)) := fun wx => by
    rw [run_makeSlice (P := Tryz.prog) (w := wx) 207 217 i0 _ Tryz.underlying207 hi0 hz0 .i64 .i64 _ _ (by omega) (by omega) (by rw [hz1]; omega) (by rw [hz2]; omega) (by omega), hz1]
    rw [hC]
    rfl
  have HC : Hid (∀ i : Nat, i < 193 → ∀ j, j < 5 → C.toList[i * 5 + j]? = some (gFld none (.slice none 0 0) (.slice none 0 0) (.slice none 0 0) j)) := fun i hi j hj => by rw [hC]; exact made_obj hi hj
  clear hC h1 h24 hi0 hz0 hz1 hz2
  go_enter Tryz.func89, Tryz.ntmps89
  go_wp2_with fail
  refine h2.mono ?_
  rintro e w3 ⟨q, k, c, l, rfl, hp, ho, u1, u2, u3, u4⟩
  obtain ⟨_, _, _, _, _, _, _, _, _, f1, f2, f3, f4⟩ := hp.facts
  have hp5 := hp.only (((Only.refl [] w3).alloc (.cells C 217)).alloc (.cells #[.slice (some ⟨w3.heap.size, 0, none⟩) 193 193, .pointer (some ⟨q, 0, none⟩)] 209)) (by simp) (by simp) (by simp) (by simp)
  have hrow : Row ((w3.alloc (.cells C 217)).alloc (.cells #[.slice (some ⟨w3.heap.size, 0, none⟩) 193 193, .pointer (some ⟨q, 0, none⟩)] 209)) (w3.heap.size + 1) 209 [.slice (some ⟨w3.heap.size, 0, none⟩) 193 193, .pointer (some ⟨q, 0, none⟩)] := by
    have := Row.new (w3.alloc (.cells C 217)) 209 [.slice (some ⟨w3.heap.size, 0, none⟩) 193 193, .pointer (some ⟨q, 0, none⟩)]
    rwa [World.size_alloc] at this
  have hobj : Row ((w3.alloc (.cells C 217)).alloc (.cells #[.slice (some ⟨w3.heap.size, 0, none⟩) 193 193, .pointer (some ⟨q, 0, none⟩)] 209)) w3.heap.size 217 C.toList := (Row.new w3 217 C.toList).alloc _
  have hO : Only [] w ((w3.alloc (.cells C 217)).alloc (.cells #[.slice (some ⟨w3.heap.size, 0, none⟩) 193 193, .pointer (some ⟨q, 0, none⟩)] 209)) := (ho.alloc _).alloc _
  have hsz := ho.size
  obtain ⟨L1, X1, q1, q2⟩ := GRep.start (v := w.heap.size) hp5 hrow hobj HC.out ⟨u1, u2, u3, u4, hsz, by omega⟩ ⟨by omega, by omega, by omega, by omega, by omega, by omega, by omega, by omega, by omega⟩
  have Q1 := Lib.hid q1
  have Q2 := Lib.hid q2
  have QO := Lib.hid hO
  clear h2 hp hp5 hrow hobj hO q1 q2 u1 u2 u3 u4 f1 f2 f3 f4 hsz ho
  go_wp2_with fail
  exact hR.out _ _ ⟨_, L1, X1, rfl, Q1.out, Q2.out, QO.out⟩
end Go.Proofs.YthflghdaejbdkaaGreat
namespace Go.Proofs.YthflghdaejbdkaaGreat
open Go.RowKit Go.Maps
set_option maxHeartbeats 3200000
set_option maxRecDepth 100000
set_option linter.unusedVariables false
theorem Only.bel {w w' : World} (h : Only [] w w') : Below w.heap.size w w' := h.below (Nat.le_refl _) (by simp)
end Go.Proofs.YthflghdaejbdkaaGreat
namespace Go.Proofs.YthflghdaejbdkaaGreat
open Go.Joins Go.ChangeShapes Go.WideShapes Go.Deep Go.RowKit
set_option linter.unusedVariables false
section
variable {H : Type} {enc : TypeId × Value → H} {P : Program} {w : World} {base : Nat} {spare : Nat → Bool} {held : Bool}
theorem okWide_array {r : Reach} {b0 n : Nat} {t e : TypeId} {v : Value} (ht : P.underlying t = some (.array n e)) (h : Value.okWide P w r b0 t v) : ∃ cs, v = .agg cs ∧ cs.size = P.cellsOf t := by
  simp only [Value.okWide, ht] at h
  obtain ⟨cs, h1, h2, _⟩ := h
  exact ⟨cs, h1, h2⟩
theorem open_arr2 {r : Reach} {b0 : Nat} {t e : TypeId} {v : Value} {d : DataW H} {p : List MemPlace} (ht : P.underlying t = some (.array 2 e)) (he : P.underlying e = some (.int .i64)) (hce : P.cellsOf e = 1) (hC : P.cellsOf t = 2)
    (hv : Value.okWide P w r b0 t v) (h : DataW.Trod enc P w base spare held t v d p) : ∃ x y : Int, v = .agg #[.int .i64 x, .int .i64 y] ∧ (Lit.int .i64 x).wf = true ∧ (Lit.int .i64 y).wf = true := by
  obtain ⟨cs, rfl, hsz⟩ := okWide_array ht hv
  rw [hC] at hsz
  obtain ⟨l⟩ := cs
  match l, hsz with
  | [c0, c1], _ =>
    obtain ⟨fuel, hf⟩ := h
    obtain ⟨xs, m, _, _, hl, hxl, hi⟩ := DataW.trod_array ht hf
    have h0 := hi 0 (by omega)
    have h1 := hi 1 (by omega)
    rw [hce, List.getElem?_eq_getElem (by omega)] at h0 h1
    obtain ⟨x, e0, _, w0⟩ := DataW.trod_int he h0
    obtain ⟨y, e1, _, w1⟩ := DataW.trod_int he h1
    simp [Value.cells] at e0 e1
    subst e0 e1
    exact ⟨x, y, rfl, w0, w1⟩
end
end Go.Proofs.YthflghdaejbdkaaGreat
namespace Go.Proofs.YthflghdaejbdkaaGreat
open Go.RowKit Go.Maps
set_option maxRecDepth 100000
set_option linter.unusedVariables false
structure Asn where
  holds : World → (Nat → Prop) → Prop
  keep : ∀ {w w' : World} {S T : Nat → Prop}, holds w S → OnlyP T w w' → (∀ k, T k → ¬ S k) → holds w' S
  lt : ∀ {w : World} {S : Nat → Prop} {k : Nat}, holds w S → S k → k < w.heap.size
def Fam (w0 w : World) (l : List Asn) : Prop :=
  Only [] w0 w ∧ ∃ S : Nat → Nat → Prop, (∀ (i : Nat) (A : Asn), l[i]? = some A → A.holds w (S i)) ∧ (∀ i j, i < l.length → j < l.length → i ≠ j → ∀ k, S i k → ¬ S j k) ∧ (∀ i, i < l.length → ∀ k, S i k → w0.heap.size ≤ k)
def Turn (w : World) (S : Nat → Prop) (A' : Asn) (r : Value) (e : Ending) (w' : World) : Prop :=
  e = .returned r ∧ ∃ S', A'.holds w' S' ∧ (∀ k, S' k → S k ∨ w.heap.size ≤ k) ∧ OnlyP S w w'
def Born (w w' : World) (A : Asn) : Prop := Only [] w w' ∧ ∃ S, A.holds w' S ∧ ∀ k, S k → w.heap.size ≤ k
section
variable {w0 w w' w1 : World} {l : List Asn} {A A' : Asn}
theorem Fam.only (h : Fam w0 w l) : Only [] w0 w := h.1
theorem Fam.nil (w : World) : Fam w w [] := ⟨Only.refl _ _, fun _ _ => False, fun i A h => by simp at h, fun i j h => by simp at h, fun i h => by simp at h⟩
theorem Fam.cell (h : Fam w0 w l) {a : Addr} {v : Value} (hc : w0.cell? a = some v) : w.cell? a = some v := h.1.cell hc (by simp)
theorem Fam.get (h : Fam w0 w l) (i : Nat) (hi : l[i]? = some A) : ∃ S, A.holds w S ∧ ∀ k, S k → w0.heap.size ≤ k := by
  obtain ⟨_, S, h1, _, h3⟩ := h
  exact ⟨S i, h1 i A hi, h3 i (List.getElem?_eq_some_iff.1 hi).1⟩
theorem Fam.onlyP {T : Nat → Prop} (h : Fam w0 w l) (ho : OnlyP T w w') (hT : ∀ k, T k → k < w0.heap.size → False) (hd : ∀ (i : Nat) (A : Asn) (S : Nat → Prop), l[i]? = some A → A.holds w S → ∀ k, T k → ¬ S k) : Fam w0 w' l := by
  obtain ⟨h0, S, h1, h2, h3⟩ := h
  exact ⟨⟨ho.os.trans h0.os, ho.tape.trans h0.tape, ho.output.trans h0.output, Nat.le_trans h0.size ho.size, fun k hk hn => by
    rw [ho.block k (Nat.lt_of_lt_of_le hk h0.size) (fun x => hT k x hk)]
    exact h0.block k hk hn⟩, S, fun i A hi => A.keep (h1 i A hi) ho (hd i A (S i) hi (h1 i A hi)), h2, h3⟩
theorem Fam.only0 (h : Fam w0 w l) (ho : Only [] w w') : Fam w0 w' l :=
  h.onlyP (T := fun _ => False) ho.toP0 (fun _ x => x.elim) (fun _ _ _ _ _ _ x => x.elim)
theorem Fam.drew (h : Fam w0 w l) : Fam w0 w.drew l := h.only0 (Only.refl _ _).drew
theorem Fam.drewN (h : Fam w0 w l) (n : Nat) : Fam w0 (w.drewN n) l := h.only0 ((Only.refl _ _).drewN n)
theorem Fam.alloc (h : Fam w0 w l) (o : Obj) : Fam w0 (w.alloc o) l := h.only0 ((Only.refl _ _).alloc o)
theorem Fam.step {P : Program} (h : Fam w0 w l) (i : Nat) (hi : l[i]? = some A) {F : FuncId} {args : Array Value} {r : Value} (hc : ∀ S, A.holds w S → Calls P F args w (Turn w S A' r)) :
    Calls P F args w (fun e w1 => e = .returned r ∧ Fam w0 w1 (l.set i A')) := by
  obtain ⟨h0, S, h1, h2, h3⟩ := h
  refine (hc (S i) (h1 i A hi)).mono fun e w1 ht => ?_
  have hil := (List.getElem?_eq_some_iff.1 hi).1
  obtain ⟨he, S', hA, hS, ho⟩ := ht
  refine ⟨he, ⟨ho.os.trans h0.os, ho.tape.trans h0.tape, ho.output.trans h0.output, Nat.le_trans h0.size ho.size, fun k hk hn => by
    rw [ho.block k (Nat.lt_of_lt_of_le hk h0.size) (fun x => by have := h3 i hil k x; omega)]
    exact h0.block k hk hn⟩, fun j => if j = i then S' else S j, fun j B hj => ?_, fun a b ha hb hab k => ?_, fun j hj k hk => ?_⟩
  · try simp only
    by_cases e : j = i
    · rw [if_pos e]
      rw [e, List.getElem?_set_self hil] at hj
      cases hj
      exact hA
    · rw [if_neg e]
      rw [List.getElem?_set_ne (fun x => e x.symm)] at hj
      exact B.keep (h1 j B hj) ho (h2 i j hil (List.getElem?_eq_some_iff.1 hj).1 (fun x => e x.symm))
  · rw [List.length_set] at ha hb
    try simp only
    intro h4 h5
    by_cases e1 : a = i
    · by_cases e2 : b = i
      · exact hab (e1.trans e2.symm)
      · rw [if_pos e1] at h4
        rw [if_neg e2] at h5
        rcases hS k h4 with h6 | h6
        · exact h2 i b hil hb (fun x => e2 x.symm) k h6 h5
        · have := (l[b]'hb).lt (h1 b _ (List.getElem?_eq_getElem hb)) h5; omega
    · by_cases e2 : b = i
      · rw [if_neg e1] at h4
        rw [if_pos e2] at h5
        rcases hS k h5 with h6 | h6
        · exact h2 i a hil ha (fun x => e1 x.symm) k h6 h4
        · have := (l[a]'ha).lt (h1 a _ (List.getElem?_eq_getElem ha)) h4; omega
      · rw [if_neg e1] at h4
        rw [if_neg e2] at h5
        exact h2 a b ha hb hab k h4 h5
  · rw [List.length_set] at hj
    try simp only at hk
    by_cases e : j = i
    · rw [if_pos e] at hk
      rcases hS k hk with h6 | h6
      · exact h3 i hil k h6
      · have := h0.size; omega
    · rw [if_neg e] at hk
      exact h3 j hj k hk
theorem Fam.add (h : Fam w0 w l) (hb : Born w w' A) : Fam w0 w' (l ++ [A]) := by
  obtain ⟨ho, T, hA, hT⟩ := hb
  obtain ⟨h0, S, h1, h2, h3⟩ := h
  have hlt : ∀ i, i < l.length → ∀ k, S i k → k < w.heap.size := fun i hi k hk => (l[i]'hi).lt (h1 i _ (List.getElem?_eq_getElem hi)) hk
  refine ⟨h0.trans ho (by simp), fun j => if j = l.length then T else S j, fun j B hj => ?_, fun a b ha hb hab k => ?_, fun j hj k hk => ?_⟩
  · try simp only
    by_cases e : j = l.length
    · rw [if_pos e]
      rw [e] at hj
      simp at hj
      rw [← hj]
      exact hA
    · rw [if_neg e]
      have hjl : j < l.length := by
        have := (List.getElem?_eq_some_iff.1 hj).1
        simp at this; omega
      rw [List.getElem?_append_left hjl] at hj
      exact B.keep (h1 j B hj) (ho.toP0 (S := fun _ => False)) (fun _ x => x.elim)
  · simp at ha hb
    try simp only
    intro h4 h5
    by_cases e1 : a = l.length
    · by_cases e2 : b = l.length
      · exact hab (e1.trans e2.symm)
      · rw [if_pos e1] at h4
        rw [if_neg e2] at h5
        have := hT k h4; have := hlt b (by omega) k h5; omega
    · by_cases e2 : b = l.length
      · rw [if_neg e1] at h4
        rw [if_pos e2] at h5
        have := hT k h5; have := hlt a (by omega) k h4; omega
      · rw [if_neg e1] at h4
        rw [if_neg e2] at h5
        exact h2 a b (by omega) (by omega) hab k h4 h5
  · simp at hj
    try simp only at hk
    by_cases e : j = l.length
    · rw [if_pos e] at hk; have := hT k hk; have := h0.size; omega
    · rw [if_neg e] at hk; exact h3 j (by omega) k hk
theorem Fam.pop (h : Fam w0 w (l ++ [A])) : Fam w0 w l := by
  obtain ⟨h0, S, h1, h2, h3⟩ := h
  refine ⟨h0, S, fun i B hi => h1 i B ?_, fun i j hi hj => h2 i j (by simp; omega) (by simp; omega), fun i hi => h3 i (by simp; omega)⟩
  rw [List.getElem?_append_left (List.getElem?_eq_some_iff.1 hi).1]
  exact hi
def RowA (b T : Nat) (cs : List Value) : Asn :=
  ⟨fun w S => Row w b T cs ∧ ∀ k, S k ↔ k = b, fun h ho hd => ⟨ho.row h.1 (fun x => hd b x ((h.2 b).2 rfl)), h.2⟩, fun h hk => by rw [(h.2 _).1 hk]; exact h.1.lt⟩
theorem Fam.row {b T : Nat} {cs : List Value} (h : Fam w0 w l) (i : Nat) (hi : l[i]? = some (RowA b T cs)) : Row w b T cs := by
  obtain ⟨S, h1, _⟩ := h.get i hi
  exact h1.1
theorem Fam.addRow (h : Fam w0 w l) (T : Nat) (cs : List Value) : Fam w0 (w.alloc (.cells cs.toArray T)) (l ++ [RowA w.heap.size T cs]) :=
  h.add ⟨(Only.refl [] w).alloc _, fun k => k = w.heap.size, ⟨Row.new w T cs, fun k => Iff.rfl⟩, fun k hk => by rw [hk]; exact Nat.le_refl _⟩
def IntsA (v : Value) (l : List Int) : Asn :=
  ⟨fun w S => Ints w 0 v l ∧ ∀ k, S k ↔ v.ownBlock = some k, fun h ho hd => ⟨h.1.onlyP ho (fun k hk x => hd k x ((h.2 k).2 hk)), h.2⟩, fun h hk => (h.1.own _ ((h.2 _).1 hk)).2⟩
theorem Fam.ints {v : Value} {m : List Int} (h : Fam w0 w l) (i : Nat) (hi : l[i]? = some (IntsA v m)) : Ints w 0 v m := by
  obtain ⟨S, h1, _⟩ := h.get i hi
  exact h1.1
theorem Fam.addInts {v : Value} {m : List Int} (h : Fam w0 w l) (ho : Only [] w w') (hi : Ints w' w.heap.size v m) : Fam w0 w' (l ++ [IntsA v m]) :=
  h.add ⟨ho, fun k => v.ownBlock = some k, ⟨hi.base (Nat.zero_le _), fun k => Iff.rfl⟩, fun k hk => (hi.own k hk).1⟩
end
end Go.Proofs.YthflghdaejbdkaaGreat
namespace Go.Proofs.YthflghdaejbdkaaGreat
open Go.RowKit Go.Maps
set_option maxHeartbeats 6400000
set_option maxRecDepth 100000
set_option linter.unusedVariables false
def PH (p : Nat) (M : Hp) : Asn :=
  ⟨fun w S => M.OkF ∧ ∃ L X, HRep w L p M X ∧ ∀ k, S k ↔ L k ≠ none,
   fun h ho hd => ⟨h.1, by
     obtain ⟨_, L, X, h1, h2⟩ := h
     exact ⟨L, X, h1.only ho (fun k hk => by
       cases e : L k with
       | none => rfl
       | some ℓ => exact absurd ((h2 k).2 (by rw [e]; simp)) (hd k hk)), h2⟩⟩,
   fun h hk => by
     obtain ⟨_, L, X, h1, h2⟩ := h
     exact h1.lt _ ((h2 _).1 hk)⟩
def GH (q : Nat) (M : Hp) : Asn :=
  ⟨fun w S => M.Ok ∧ ∃ L X, GRep w L q M X ∧ ∀ k, S k ↔ L k ≠ none,
   fun h ho hd => ⟨h.1, by
     obtain ⟨_, L, X, h1, h2⟩ := h
     exact ⟨L, X, h1.only ho (fun k hk => by
       cases e : L k with
       | none => rfl
       | some ℓ => exact absurd ((h2 k).2 (by rw [e]; simp)) (hd k hk)), h2⟩⟩,
   fun h hk => by
     obtain ⟨_, L, X, h1, h2⟩ := h
     exact h1.lt _ ((h2 _).1 hk)⟩
theorem lset_same {α : Type} {l : List α} {i : Nat} {a : α} (h : l[i]? = some a) : l.set i a = l := by
  apply List.ext_getElem?
  intro j
  rw [List.getElem?_set]
  by_cases e : i = j
  · subst e; rw [if_pos rfl, if_pos (List.getElem?_eq_some_iff.1 h).1, h]
  · rw [if_neg e]
theorem lat_left {α : Type} {l : List α} {i : Nat} {a b : α} (h : l[i]? = some a) : (l ++ [b])[i]? = some a := by rw [List.getElem?_append_left (List.getElem?_eq_some_iff.1 h).1]; exact h
theorem lat_last {α : Type} (l : List α) (b : α) : (l ++ [b])[l.length]? = some b := by simp
section
variable {w0 w w' : World} {l : List Asn} {p q : Nat} {M M' : Hp}
theorem Fam.ph (h : Fam w0 w l) (i : Nat) (hi : l[i]? = some (PH p M)) : M.Ok ∧ ∃ L X, HRep w L p M X := by
  obtain ⟨S, ⟨h1, L, X, h2, _⟩, _⟩ := h.get i hi
  exact ⟨h1.ok, L, X, h2⟩
theorem Fam.phF (h : Fam w0 w l) (i : Nat) (hi : l[i]? = some (PH p M)) : M.OkF := by
  obtain ⟨S, ⟨h1, _⟩, _⟩ := h.get i hi
  exact h1
theorem Fam.pstep (h : Fam w0 w l) (i : Nat) (hi : l[i]? = some (PH p M)) {F : FuncId} {args : Array Value} {r : Value} (hok : M.OkF → M'.OkF) (hc : ∀ L X, HRep w L p M X → M.Ok → Calls Tryz.prog F args w (HDid w L p r M')) :
    Calls Tryz.prog F args w (fun e w1 => e = .returned r ∧ Fam w0 w1 (l.set i (PH p M'))) :=
  h.step i hi (A' := PH p M') fun S ⟨hk, L, X, h1, h2⟩ => (hc L X h1 hk.ok).mono fun e w1 ⟨he, L', X', h3, h4, h5⟩ =>
    ⟨he, fun k => L' k ≠ none, ⟨hok hk, L', X', h3, fun k => Iff.rfl⟩, fun k hk => (h4 k hk).imp (fun x => (h2 k).2 x) id, h5.mono (fun k hk => .inl ((h2 k).2 hk))⟩
theorem pborn {L : Nat → Option Lb} {X : HX} (h : HRep w' L p M X) (hk : M.OkF) (hL : ∀ k, L k ≠ none → w.heap.size ≤ k) (ho : Only [] w w') : Born w w' (PH p M) :=
  ⟨ho, fun k => L k ≠ none, ⟨hk, L, X, h, fun k => Iff.rfl⟩, hL⟩
theorem gborn {L : Nat → Option Gb} {X : GX} (h : GRep w' L q M X) (hk : M.Ok) (hL : ∀ k, L k ≠ none → w.heap.size ≤ k) (ho : Only [] w w') : Born w w' (GH q M) :=
  ⟨ho, fun k => L k ≠ none, ⟨hk, L, X, h, fun k => Iff.rfl⟩, hL⟩
end
end Go.Proofs.YthflghdaejbdkaaGreat
