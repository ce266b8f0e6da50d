/- Lemmas of this claim. -/
import Derived.Test.YtkacgbigeobncaaGreatTaSNear
import Derived.Test.YtkacgbigeobncaaGreatTaSnA
namespace Go.Proofs.YtkacgbigeobncaaGreat
open Go.RowKit Go.Shelf
set_option maxHeartbeats 3200000
set_option maxRecDepth 100000
set_option linter.unusedVariables false
set_option linter.unusedSimpArgs false
section
attribute [local go_sem] Oper.semAt_some
theorem bkB_in (F : Fence) (n : Nat) (h8 : F.fn 210) (hro : F.round = none) (l Bs : Nat) (J Jx : List Empty → World → Prop)
    (W : World) (hBs : W.cell? ⟨Bs, 0, none⟩ = some (.slice none 0 0)) (h0 : J [] W) :
    CallsIn F n Tryz.prog 210 #[.func (.yield l) #[] #[], .pointer (some ⟨Bs, 0, none⟩)] W fun e W' => (∃ v, e = .returned v) ∧
      ((∃ ys, ys = [] ∧ J ys W') ∨ (∃ pre, False ∧ Jx pre W')) := by
  refine callsIn_of_wp Tryz.func210 rfl h8 ?_ hro
  simp only [Tryz.ntmps210, List.size_toArray, List.length_cons, List.length_nil, Nat.reduceAdd, Nat.reduceSub, Array.replicate_succ, Array.replicate_zero, List.push_toArray, List.append_toArray, List.nil_append, List.cons_append]
  gi_wp2
  gi_loopw [3] (fun i wr => i = .int .i64 (-1) ∧ J [] wr) (fun i _ => 0)
  case atStart => exact ⟨rfl, h0⟩
  case round =>
    obtain ⟨rfl, hJ⟩ := hrel
    gi_wp2
    go_end0
    exact ⟨⟨_, rfl⟩, .inl ⟨_, rfl, hJ⟩⟩
theorem backB_in (F : Fence) (n : Nat) (h6 : F.fn 190) (hro : F.round = none) (w : World) :
    CallsIn F n Tryz.prog 190 #[.slice none 0 0] w fun e w' => e = .returned (.func (.func 210) #[] #[.pointer (some ⟨w.heap.size, 0, none⟩)]) ∧ w' = w.alloc (.cells #[.slice none 0 0] 179) := by
  refine callsIn_of_wp Tryz.func190 rfl h6 ?_ hro
  simp only [Tryz.ntmps190, List.size_toArray, List.length_cons, List.length_nil, Nat.reduceAdd, Nat.reduceSub, Array.replicate_succ, Array.replicate_zero, List.push_toArray, List.append_toArray, List.nil_append, List.cons_append]
  gi_wp2
  go_ret
  exact ⟨rfl, rfl⟩
theorem bkB_stops (F : Fence) (n : Nat) (h8 : F.fn 210) (hro : F.round = none) (Bs n₀ : Nat) (w : World) (hBs : Bs < w.heap.size) (hc : w.cell? ⟨Bs, 0, none⟩ = some (.slice none 0 0)) :
    SeqStopsK F n Tryz.prog 210 #[.pointer (some ⟨Bs, 0, none⟩)] (fun x : Empty => x.elim) (Below n₀) (fun ys => ys = [])
      (fun pre => False) 0 w := fun l J Jx W hW _ _ hY h0 =>
  bkB_in F n h8 hro l Bs J Jx W ((hW.cell (p := ⟨Bs, 0, none⟩) hBs).trans hc) h0
theorem floorIn (F : Fence) (n : Nat) (h4 : F.fn 158) (h6 : F.fn 190) (h8 : F.fn 210) (hro : F.round = none) (hn : 3 ≤ n) (cb : Nat) (w : World)
    (hc : w.cell? ⟨cb, 6, none⟩ = some (.slice none 0 0)) :
    CallsIn F n Tryz.prog 158 #[.pointer (some ⟨cb, 0, none⟩)] w fun e W' => e = .returned (.int .i64 0) ∧ Below w.heap.size w W' := by
  have h1 : 1 ≤ n := by omega
  have hcA : (w.alloc (.cells #[.int .i64 0] 3)).cell? ⟨cb, 6, none⟩ = some (.slice none 0 0) := by rw [World.cell?_alloc_past _ _ _ (World.block_lt_of_cell? w _ hc)]; exact hc
  refine callsIn_of_wp_marks Tryz.func158 rfl h4 ?_ hro
  simp only [Tryz.ntmps158, List.size_toArray, List.length_cons, List.length_nil, Nat.reduceAdd, Nat.reduceSub, Array.replicate_succ, Array.replicate_zero, List.push_toArray, List.append_toArray, List.nil_append, List.cons_append]
  gi_wp2_with (gi_at_call 190; refine (backB_in F (n - 1) h6 hro _).mono ?_; rintro e w' ⟨rfl, rfl⟩)
  have bR := Boxed.new w 3 (.int .i64 0)
  have bN := Boxed.new (w.alloc (.cells #[.int .i64 0] 3)) 179 (.slice none 0 0)
  rw [World.size_alloc] at bN
  have hB0 : Below w.heap.size w ((w.alloc (.cells #[.int .i64 0] 3)).alloc (.cells #[.slice none 0 0] 179)) := ((Below.refl _ w).alloc (Nat.le_refl _) _).alloc (by simp) _
  refine wpIn_rangeFunc_ownG hro h1 (gf := 210) (lb := #[.pointer (some ⟨w.heap.size + 1, 0, none⟩)]) rfl h8 (enters_of Tryz.func210 (by kernel_rfl) rfl)
    (bkB_stops F (n - 1) h8 hro (w.heap.size + 1) (w.heap.size + 2) _ (by simp) bN.cell) belowK_t (belowK_b (by simp)) (Below.refl _ _) (fun x => x.elim)
    (fun pre W => (W.cell? ⟨w.heap.size, 0, none⟩ = some (.int .i64 0) ∧ W.frozen? ⟨w.heap.size, 0, none⟩ = false) ∧ Below w.heap.size w W)
    (fun c pre W => (W.cell? ⟨w.heap.size, 0, none⟩ = some (.int .i64 0)) ∧ Below w.heap.size w W)
    (OwnFrom.and (Own.from (fun s A B row hs hg hr => ⟨cell_kept hs.1 hg hr, (frozen_kept hs.1 hg hr).trans hs.2⟩) _) (ownFrom_below (Nat.le_refl _) (by simp; omega)))
    (fun c => OwnFrom.and (Own.from (fun s A B row hs hg hr => cell_kept hs hg hr) _) (ownFrom_below (Nat.le_refl _) (by simp; omega)))
    ⟨⟨(bR.alloc _).cell, (bR.alloc _).frozen⟩, hB0⟩
    (fun x : Empty => x.elim) ?assign ?body ?done ?stop
  case assign => intro l x; exact x.elim
  case body => intro l pre x; exact x.elim
  case done =>
    rintro D ys W hD rfl ⟨⟨hcr, hfr⟩, hB⟩ hK
    gi_wp2
    have hK' := (KeepsOthers.setCell W ⟨w.heap.size, 0, none⟩ (.int .i64 0)).same D _ hK rfl
    refine ⟨by simp, .inl ⟨_, _, rfl, run_takeDeferred hK', ?_⟩⟩
    have hc5 := cell_kept (World.cell?_setCell_same' W ⟨w.heap.size, 0, none⟩ (.int .i64 0) (by rw [hcr]; rfl)) (grownBy_putObj' _ D (.deferred none)) (fun r e => by cases e; exact ⟨_, hK', rfl⟩)
    refine ⟨.int .i64 0, ?_, rfl, (hB.setCell (p := ⟨w.heap.size, 0, none⟩) (Nat.le_refl _) _).trans (belowK_b (w := w) (Nat.le_refl _) _ D _ _ (by simp at hD; omega) hK' rfl rfl)⟩
    simp [results, Tryz.f158, go_sem, hc5]
  case stop =>
    rintro D c pre W hD hF
    exact hF.elim
end
theorem floor0 (w : World) (cb : Nat) (hc : w.cell? ⟨cb, 6, none⟩ = some (.slice none 0 0)) :
    Calls Tryz.prog 158 #[.pointer (some ⟨cb, 0, none⟩)] w fun e w' => e = .returned (.int .i64 0) ∧ Only [] w w' :=
  ((callsIn_wide (n := 3)).1 (floorIn Fence.wide 3 trivial trivial trivial rfl (by omega) cb w hc)).mono fun e w' ⟨h1, h2⟩ => ⟨h1, h2.os, h2.tape, h2.output, h2.size, fun k hk _ => h2.block k hk⟩
end Go.Proofs.YtkacgbigeobncaaGreat
namespace Go.Proofs.YtkacgbigeobncaaGreat
open Go.RowKit Go.Maps
set_option maxHeartbeats 6400000
set_option maxRecDepth 100000
set_option linter.unusedVariables false
set_option linter.unusedSimpArgs false
structure Bk where
  op : Int
  beg : List Ty
  first : List Ty
  mid : Bool
instance : Inhabited Bk := ⟨⟨0, [], [], false⟩⟩
structure BV where
  b : Bk
  bv : Value
  fv : Value
def BV.row (x : BV) : List Value := [.int .i64 x.b.op, x.bv, x.fv, .bool x.b.mid]
structure Ck where
  stack : List Ty
  opens : List Bk
  err : Int
structure CX where
  lv : Value
  sv : Value
  ov : Value
  os : List BV
def Value.blk : Value → Option Nat | .slice (some a) _ _ => some a.block | _ => none
def Tf (w : World) (c : Nat) (ob : Option Nat) (v : Value) (l : List Ty) : Prop := RdT w v l ∧ (l ≠ [] → ∀ b, Value.blk v = some b → b ≠ c ∧ ob ≠ some b)
def ckRow (X : MX) (M : Mod) (x : CX) (e : Int) : List Value := [X.vc, X.vs, X.vm, .int .i64 M.sel, x.lv, x.sv, x.ov, .int .i64 e]
structure CkA (w0 w : World) (X : MX) (M : Mod) (L : List Ty) (x : CX) (k : Ck) : Prop where
  o0 : Only [] w0 w
  mod : ModA w0 X M
  loc : RdT w0 x.lv L
  row : Row w w0.heap.size 181 (ckRow X M x k.err)
  stk : Tf w w0.heap.size (x.ov.ownBlock) x.sv k.stack
  eo : k.opens = x.os.map (·.b)
  own : Own 221 BV.row 4 w (w0.heap.size + 1) x.ov x.os
  br : ∀ y, y ∈ x.os → Tf w w0.heap.size (x.ov.ownBlock) y.bv y.b.beg ∧ Tf w w0.heap.size (x.ov.ownBlock) y.fv y.b.first
section
variable {w0 w w' : World} {X : MX} {M : Mod} {L : List Ty} {x : CX} {k : Ck}
theorem Rd.onlyF {α : Type} {row : α → List Value} {z : Nat} {v : Value} {l : List α} {F : List Nat} (h : Rd row z w v l) (ho : Only F w w') (hF : l ≠ [] → ∀ b, Value.blk v = some b → b ∉ F) : Rd row z w' v l := by
  rcases h with ⟨b, o, c, h, hc, h2⟩ | h
  · by_cases hl : l = []
    · subst hl
      exact .inl ⟨b, o, c, h, hc, fun i y hy => by simp at hy⟩
    · exact .inl ⟨b, o, c, h, hc, fun i y hy r u hu => ho.cell (h2 i y hy r u hu) (hF hl b (by rw [h]; rfl))⟩
  · exact .inr h
theorem Tf.keep {c : Nat} {ob : Option Nat} {v : Value} {l : List Ty} (h : Tf w c ob v l) (ho : Only [c] w w') : Tf w' c ob v l :=
  ⟨h.1.onlyF ho (fun hl b hb => by have := (h.2 hl b hb).1; simp; exact this), h.2⟩
theorem Tf.keep0 {c : Nat} {ob : Option Nat} {v : Value} {l : List Ty} (h : Tf w c ob v l) (ho : Only [] w w') : Tf w' c ob v l := ⟨h.1.only ho, h.2⟩
theorem CkA.only (h : CkA w0 w X M L x k) (ho : Only [] w w') : CkA w0 w' X M L x k :=
  ⟨h.o0.trans ho (by simp), h.mod, h.loc, ho.row h.row (by simp), h.stk.keep0 ho, h.eo, h.own.only0 ho, fun y hy => ⟨(h.br y hy).1.keep0 ho, (h.br y hy).2.keep0 ho⟩⟩
theorem CkA.turn (h : CkA w0 w X M L x k) (ho : Only [w0.heap.size] w w') {sv : Value} {st : List Ty} {e : Int} (hrow : Row w' w0.heap.size 181 (ckRow X M { x with sv := sv } e)) (hst : Tf w' w0.heap.size (x.ov.ownBlock) sv st) :
    CkA w0 w' X M L { x with sv := sv } { k with stack := st, err := e } := by
  refine ⟨h.o0.trans ho (fun y hy => .inr (by simp at hy; omega)), h.mod, h.loc, hrow, hst, h.eo, h.own.only ho (fun g hg => ?_), fun y hy => ⟨(h.br y hy).1.keep ho, (h.br y hy).2.keep ho⟩⟩
  have := (h.own.own g hg).1
  simp
  omega
theorem CkA.modA (h : CkA w0 w X M L x k) : ModA w X M := h.mod.only h.o0
theorem CkA.lt (h : CkA w0 w X M L x k) : w0.heap.size < w.heap.size := h.row.lt
end
def Ck.fail (k : Ck) (e : Int) : Ck := { k with err := if k.err = 0 then e else k.err }
end Go.Proofs.YtkacgbigeobncaaGreat
namespace Go.Proofs.YtkacgbigeobncaaGreat
open Go.RowKit Go.Maps
set_option maxHeartbeats 6400000
set_option maxRecDepth 100000
set_option linter.unusedVariables false
set_option linter.unusedSimpArgs false
theorem number_any (w : World) : Calls Tryz.prog 105 #[] w (Ret w (.agg #[.int .i64 1, .int .i64 0])) := by
  refine calls_abs fun R hR => ?_
  go_enter Tryz.func105, Tryz.ntmps105
  go_wp2_with fail
  refine bodyPost_ret (results_cell_row rfl _ _ w.heap.size 68 _ (0, 0) _ rfl (Row.new w 68 [.int .i64 1, .int .i64 0]) Tryz.underlying68 rfl (by kernel_rfl)) rfl ?_
  exact hR.out _ _ ⟨rfl, (Only.refl _ _).alloc _⟩
section
variable {w0 w w2 : World} {X : MX} {M : Mod} {L : List Ty} {x : CX} {k : Ck}
theorem CkA.after (h : CkA w0 w X M L x k) {e : Int} (h2 : CkA w0 w2 X M L x { k with err := e }) (ho : Only [w0.heap.size] w w2) {b : Nat} (hb : w.heap.size ≤ b) (v0 v1 : Value) :
    CkA w0 ((w2.setCell ⟨b, 0, none⟩ v0).setCell ⟨b, 1, none⟩ v1) X M L x { k with err := e } ∧ Only [w0.heap.size] w ((w2.setCell ⟨b, 0, none⟩ v0).setCell ⟨b, 1, none⟩ v1) := by
  have hoF := (ho.set (p := ⟨b, 0, none⟩) (.inr hb) v0).set (p := ⟨b, 1, none⟩) (.inr hb) v1
  have hlt := h.lt
  have hne : b ≠ w0.heap.size := by omega
  exact ⟨h.turn (sv := x.sv) (st := k.stack) (e := e) hoF ((h2.row.other (a := ⟨b, 0, none⟩) hne _).other (a := ⟨b, 1, none⟩) hne _) (h.stk.keep hoF), hoF⟩
end
end Go.Proofs.YtkacgbigeobncaaGreat
