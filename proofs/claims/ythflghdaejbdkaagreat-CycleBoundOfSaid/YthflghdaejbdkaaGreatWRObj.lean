/- Lemmas of this claim. -/
import Derived.Test.YthflghdaejbdkaaGreatWBPlainC
import Derived.Test.YthflghdaejbdkaaGreatWRBlockE
namespace Go.Proofs.YthflghdaejbdkaaGreat
open Go.RowKit Go.Maps
set_option maxHeartbeats 1600000
set_option maxRecDepth 100000
set_option linter.unusedVariables false
inductive Gb | mem | pq | pk | pc | pl | objs | rb (h : Int) | sl (h : Int) | bl (h : Int)
  deriving DecidableEq
def gFld (o : Option Th) (rv sv bv : Value) : Nat → Value
  | 0 => .int .i64 (match o with | none => 0 | some o => o.kind)
  | 1 => .int .i64 (match o with | none => 0 | some o => o.cls)
  | 2 => match o with | none => .slice none 0 0 | some _ => rv
  | 3 => match o with | none => .slice none 0 0 | some _ => sv
  | _ => match o with | none => .slice none 0 0 | some _ => bv
structure GX where
  q : Nat
  k : Nat
  c : Nat
  l : Nat
  og : Nat
  oc : Nat
  rv : Int → Value
  sv : Int → Value
  bv : Int → Value
structure GTh (w : World) (L : Nat → Option Gb) (h : Int) (rv sv bv : Value) (o : Th) : Prop where
  rb : Bls w 0 rv o.refs
  Lr : ∀ g, rv.ownBlock = some g → L g = some (.rb h)
  sl : Ints w 0 sv o.slots
  Ls : ∀ g, sv.ownBlock = some g → L g = some (.sl h)
  bl : Ints w 0 bv o.blocks
  Lb : ∀ g, bv.ownBlock = some g → L g = some (.bl h)
structure GRep (w : World) (L : Nat → Option Gb) (hb : Nat) (M : Hp) (X : GX) : Prop where
  lt : ∀ k, L k ≠ none → k < w.heap.size
  mem : ∃ T, Row w hb T [.slice (some ⟨X.og, 0, none⟩) 193 X.oc, .pointer (some ⟨X.q, 0, none⟩)]
  Lm : L hb = some .mem
  pool : RRep w X.q X.k X.c X.l M.P
  Lq : L X.q = some .pq
  Lk : L X.k = some .pk
  Lc : L X.c = some .pc
  Ll : L X.l = some .pl
  ob : ∃ T cs, Row w X.og T cs ∧ ∀ i : Nat, i < 193 → ∀ j, j < 5 → cs[i * 5 + j]? = some (gFld (M.ob i) (X.rv i) (X.sv i) (X.bv i) j)
  Lo : L X.og = some .objs
  th : ∀ h o, M.ob h = some o → GTh w L h (X.rv h) (X.sv h) (X.bv h) o
section
variable {w w' : World} {S : Nat → Prop} {L L' : Nat → Option Gb} {hb : Nat} {M : Hp} {X : GX}
theorem RRep.onlyP {q k c l : Nat} {P : Pl} (h : RRep w q k c l P) (o : OnlyP S w w') (h1 : ¬ S q) (h2 : ¬ S k) (h3 : ¬ S c) (h4 : ¬ S l) : RRep w' q k c l P :=
  ⟨by obtain ⟨T, c1, c2, c3, r⟩ := h.hq; exact ⟨T, c1, c2, c3, o.row r h1⟩, h.rk.imp fun _ x => x.imp fun _ y => o.row y h2, h.rc.imp fun _ x => x.imp fun _ y => o.row y h3, h.rl.imp fun _ x => x.imp fun _ y => o.row y h4,
   fun i hi => o.cell (h.kind i hi) h2, fun i hi j hj => o.cell (h.cells i hi j hj) h3, fun i hi j hj => o.cell (h.live i hi j hj) h4, h.ne, h.n1, h.n24⟩
theorem GTh.only {h : Int} {rv sv bv : Value} {o : Th} (k : GTh w L h rv sv bv o) (hg : OnlyP S w w') (hS : ∀ x, S x → L x ≠ some (.rb h) ∧ L x ≠ some (.sl h) ∧ L x ≠ some (.bl h)) : GTh w' L h rv sv bv o :=
  ⟨k.rb.onlyP hg (fun g hgv x => (hS g x).1 (k.Lr g hgv)), k.Lr, k.sl.onlyP hg (fun g hgv x => (hS g x).2.1 (k.Ls g hgv)), k.Ls, k.bl.onlyP hg (fun g hgv x => (hS g x).2.2 (k.Lb g hgv)), k.Lb⟩
theorem GRep.only (h : GRep w L hb M X) (hg : OnlyP S w w') (hS : ∀ k, S k → L k = none) : GRep w' L hb M X := by
  have hne : ∀ k ℓ, S k → L k ≠ some ℓ := fun k ℓ hk e => by rw [hS k hk] at e; cases e
  obtain ⟨T1, m1⟩ := h.mem
  obtain ⟨T2, cs, m2, n2⟩ := h.ob
  exact ⟨fun k hk => Nat.lt_of_lt_of_le (h.lt k hk) hg.size, ⟨T1, hg.row m1 (fun x => hne _ _ x h.Lm)⟩, h.Lm, h.pool.onlyP hg (fun x => hne _ _ x h.Lq) (fun x => hne _ _ x h.Lk) (fun x => hne _ _ x h.Lc) (fun x => hne _ _ x h.Ll), h.Lq, h.Lk, h.Lc, h.Ll,
    ⟨T2, cs, hg.row m2 (fun x => hne _ _ x h.Lo), n2⟩, h.Lo, fun k t hk => (h.th k t hk).only hg (fun x hx => ⟨hne x _ hx, hne x _ hx, hne x _ hx⟩)⟩
theorem GRep.only0 (h : GRep w L hb M X) (hg : Only [] w w') : GRep w' L hb M X := h.only (hg.toP0 (S := fun _ => False)) (fun _ x => x.elim)
theorem GRep.drewN (h : GRep w L hb M X) (n : Nat) : GRep (w.drewN n) L hb M X := h.only ((OnlyP.refl (fun _ => False) w).drewN n) (fun _ x => x.elim)
theorem GRep.drew (h : GRep w L hb M X) : GRep w.drew L hb M X := h.only ((OnlyP.refl (fun _ => False) w).drew) (fun _ x => x.elim)
theorem glab_of {ℓ : Gb} {g : Nat} (hL : ∀ k, L k ≠ none → L' k = L k) (h : L g = some ℓ) : L' g = some ℓ := by rw [hL g (by rw [h]; simp)]; exact h
theorem GTh.lab {h : Int} {rv sv bv : Value} {o : Th} (k : GTh w L h rv sv bv o) (hL : ∀ k, L k ≠ none → L' k = L k) : GTh w L' h rv sv bv o :=
  ⟨k.rb, fun g hg => glab_of hL (k.Lr g hg), k.sl, fun g hg => glab_of hL (k.Ls g hg), k.bl, fun g hg => glab_of hL (k.Lb g hg)⟩
theorem GRep.cells (h : GRep w L hb M X) : w.cell? ⟨hb, 0, none⟩ = some (.slice (some ⟨X.og, 0, none⟩) 193 X.oc) ∧ w.cell? ⟨hb, 1, none⟩ = some (.pointer (some ⟨X.q, 0, none⟩)) ∧ (∀ i, w.frozen? ⟨hb, i, none⟩ = false) ∧ (∀ i, w.frozen? ⟨X.og, i, none⟩ = false) := by
  obtain ⟨T, hr⟩ := h.mem
  obtain ⟨T2, cs, m2, n2⟩ := h.ob
  exact ⟨hr.cell 0 rfl, hr.cell 1 rfl, fun i => hr.free i, fun i => m2.free i⟩
theorem GRep.obj (h : GRep w L hb M X) {i : Nat} (hi : i < 193) {j : Nat} (hj : j < 5) : w.cell? ⟨X.og, i * 5 + j, none⟩ = some (gFld (M.ob i) (X.rv i) (X.sv i) (X.bv i) j) := by
  obtain ⟨T2, cs, m2, n2⟩ := h.ob
  exact m2.cell _ (n2 i hi j hj)
theorem GRep.objNone (h : GRep w L hb M X) {i : Nat} (hi : i < 193) (ho : M.ob i = none) : w.cell? ⟨X.og, i * 5, none⟩ = some (.int .i64 0) := by
  have := h.obj hi (j := 0) (by omega)
  rw [ho] at this
  exact this
theorem GRep.objSome (h : GRep w L hb M X) {i : Nat} (hi : i < 193) {o : Th} (ho : M.ob i = some o) : w.cell? ⟨X.og, i * 5, none⟩ = some (.int .i64 o.kind) ∧ w.cell? ⟨X.og, i * 5 + 1, none⟩ = some (.int .i64 o.cls) ∧ w.cell? ⟨X.og, i * 5 + 2, none⟩ = some (X.rv i) ∧ w.cell? ⟨X.og, i * 5 + 3, none⟩ = some (X.sv i) ∧ w.cell? ⟨X.og, i * 5 + 4, none⟩ = some (X.bv i) := by
  have h0 := h.obj hi (j := 0) (by omega)
  have h1 := h.obj hi (j := 1) (by omega)
  have h2 := h.obj hi (j := 2) (by omega)
  have h3 := h.obj hi (j := 3) (by omega)
  have h4 := h.obj hi (j := 4) (by omega)
  rw [ho] at h0 h1 h2 h3 h4
  exact ⟨h0, h1, h2, h3, h4⟩
end
section
variable {L : Nat → Option Gb} {hb : Nat} {M : Hp} {X : GX}
theorem gthere_rep (w : World) (h : GRep w L hb M X) : Calls Tryz.prog 189 #[.pointer (some ⟨hb, 0, none⟩)] w (Exact w (.bool true)) := by
  refine calls_abs fun R hR => ?_
  have h1 := h.cells.2.1
  clear h
  go_enter Tryz.func189, Tryz.ntmps189
  go_wp2_with fail
  exact hR.out _ _ ⟨rfl, rfl⟩
theorem gin_rep (w : World) (h : GRep w L hb M X) (hk : M.Ok) (x : Int) : Calls Tryz.prog 213 #[.pointer (some ⟨hb, 0, none⟩), .int .i64 x] w (Exact w (.bool (M.ob x).isSome)) := by
  refine calls_abs fun R hR => ?_
  have h1 := gthere_rep w h
  have h2 := h.cells.1
  by_cases hx : 1 ≤ x ∧ x < 193
  · obtain ⟨i, rfl⟩ : ∃ i : Nat, x = i := ⟨x.toNat, by omega⟩
    have hi : i < 193 := by omega
    obtain ⟨x1, x2⟩ := hx
    have x0 : (0 : Int) ≤ i := by omega
    cases ho : M.ob (i : Int) with
    | none =>
      rw [ho] at hR
      have h3 := h.objNone hi ho
      clear h ho hk
      go_enter Tryz.func213, Tryz.ntmps213
      go_wp2_with fail
      refine h1.mono ?_
      rintro e _ ⟨rfl, rfl⟩
      go_wp2_with fail
      exact hR.out _ _ ⟨rfl, rfl⟩
    | some o =>
      rw [ho] at hR
      have h3 := (h.objSome hi ho).1
      have hkd : (o.kind != 0) = true := by
        have := (hk.th _ o ho).kd
        simp
        omega
      clear h ho hk
      go_enter Tryz.func213, Tryz.ntmps213
      go_wp2_with fail
      refine h1.mono ?_
      rintro e _ ⟨rfl, rfl⟩
      go_wp2_with fail
      exact hR.out _ _ ⟨rfl, rfl⟩
  · have ho : M.ob x = none := by
      cases ho : M.ob x with
      | none => rfl
      | some o => exact absurd (hk.hr x o ho) (by omega)
    rw [ho] at hR
    by_cases h3 : 1 ≤ x
    · have h4 : ¬ x < 193 := by omega
      clear h ho hk hx
      go_enter Tryz.func213, Tryz.ntmps213
      go_wp2_with fail
      refine h1.mono ?_
      rintro e _ ⟨rfl, rfl⟩
      go_wp2_with fail
      exact hR.out _ _ ⟨rfl, rfl⟩
    · clear h ho hk hx
      go_enter Tryz.func213, Tryz.ntmps213
      go_wp2_with fail
      refine h1.mono ?_
      rintro e _ ⟨rfl, rfl⟩
      go_wp2_with fail
      exact hR.out _ _ ⟨rfl, rfl⟩
end
end Go.Proofs.YthflghdaejbdkaaGreat
namespace Go.Proofs.YthflghdaejbdkaaGreat
open Go.RowKit Go.Maps
set_option maxHeartbeats 1600000
set_option maxRecDepth 100000
set_option linter.unusedVariables false
theorem Hp.Ok.idx {M : Hp} (hk : M.Ok) {x : Int} {o : Th} (ho : M.ob x = some o) : ∃ i : Nat, x = (i : Int) ∧ i < 193 ∧ (0 : Int) ≤ i ∧ (i : Int) < 193 := by
  have := hk.hr x o ho
  exact ⟨x.toNat, by omega, by omega, by omega, by omega⟩
theorem Bls.cellsOf {w : World} {base : Nat} {v : Value} {l : List Bool} (h : Bls w base v l) (h0 : 1 ≤ l.length) : ∃ g cap, v = .slice (some ⟨g, 0, none⟩) l.length cap ∧ ∀ i, i < l.length → w.cell? ⟨g, i, none⟩ = some (.bool (gB l i)) := by
  rcases h.form with ⟨_, e⟩ | ⟨g, cap, e, _, _, _, hc⟩
  · rw [e] at h0; simp at h0
  · exact ⟨g, cap, e, hc⟩
section
variable {L : Nat → Option Gb} {hb : Nat} {M : Hp} {X : GX}
theorem gused_rep (w : World) (h : GRep w L hb M X) (hk : M.Ok) (x : Int) : Calls Tryz.prog 200 #[.pointer (some ⟨hb, 0, none⟩), .int .i64 x] w (Exact w (.int .i64 (if (M.ob x).isSome then 0 else 3))) := by
  refine calls_abs fun R hR => ?_
  have h1 := gthere_rep w h
  have h2 := gin_rep w h hk x
  clear h hk
  generalize (M.ob x).isSome = b at *
  cases b <;> (
    go_enter Tryz.func200, Tryz.ntmps200
    go_wp2_with fail
    refine h1.mono ?_
    rintro e _ ⟨rfl, rfl⟩
    go_wp2_with fail
    refine h2.mono ?_
    rintro e _ ⟨rfl, rfl⟩
    go_wp2_with fail
    exact hR.out _ _ ⟨rfl, rfl⟩)
theorem gused_none (w : World) (h : GRep w L hb M X) (hk : M.Ok) (x : Int) (ho : M.ob x = none) : Calls Tryz.prog 200 #[.pointer (some ⟨hb, 0, none⟩), .int .i64 x] w (Exact w (.int .i64 3)) := by
  have := gused_rep w h hk x
  rw [ho] at this
  exact this
theorem gused_some (w : World) (h : GRep w L hb M X) (hk : M.Ok) (x : Int) {o : Th} (ho : M.ob x = some o) : Calls Tryz.prog 200 #[.pointer (some ⟨hb, 0, none⟩), .int .i64 x] w (Exact w (.int .i64 0)) := by
  have := gused_rep w h hk x
  rw [ho] at this
  exact this
end
end Go.Proofs.YthflghdaejbdkaaGreat
namespace Go.Proofs.YthflghdaejbdkaaGreat
open Go.RowKit Go.Maps
set_option maxHeartbeats 3200000
set_option maxRecDepth 100000
set_option linter.unusedVariables false
section
variable {L : Nat → Option Gb} {hb : Nat} {M : Hp} {X : GX}
theorem gtype_rep (w : World) (h : GRep w L hb M X) (hk : M.Ok) (x : Int) : Calls Tryz.prog 129 #[.pointer (some ⟨hb, 0, none⟩), .int .i64 x] w (fun e w' => e = .returned (.tuple #[.int .i64 (M.type x).1, .int .i64 (M.type x).2.1, .int .i64 (M.type x).2.2.1, .int .i64 (M.type x).2.2.2]) ∧ Only [] w w') := by
  refine calls_abs fun R hR => ?_
  unfold Hp.type at hR
  cases ho : M.ob x with
  | none =>
    rw [ho] at hR
    have h1 := gused_none w h hk x ho
    clear h hk ho
    go_enter Tryz.func129, Tryz.ntmps129
    go_wp2_with fail
    refine h1.mono ?_
    rintro e _ ⟨rfl, rfl⟩
    go_wp2_with fail
    refine bodyPost_ret (results_tmp4 rfl _ _ _) rfl ?_
    exact hR.out _ _ ⟨rfl, Only.refl _ _⟩
  | some o =>
    rw [ho] at hR
    have h1 := gused_some w h hk x ho
    have h2 := h.cells.1
    obtain ⟨i, rfl, hi, x0, x1⟩ := hk.idx ho
    obtain ⟨c0, c1, c2, c3, c4⟩ := h.objSome hi ho
    obtain ⟨a2, b2, e2⟩ := (h.th _ o ho).rb.len
    obtain ⟨a3, b3, e3⟩ := (h.th _ o ho).sl.len
    obtain ⟨a4, b4, e4⟩ := (h.th _ o ho).bl.len
    rw [e2] at c2
    rw [e3] at c3
    rw [e4] at c4
    replace hR : Hid (∀ e w', e = .returned (.tuple #[.int .i64 o.kind, .int .i64 o.cls, .int .i64 o.slots.length, .int .i64 0]) ∧ Only [] w w' → R e w') := hR
    generalize o.kind = kd at *
    generalize o.cls = cl at *
    generalize o.slots.length = ln at *
    generalize o.refs.length = rn at *
    generalize o.blocks.length = bn at *
    generalize X.og = og at *
    have hO : Hid (Only [] w (w.alloc (.cells #[.int .i64 kd, .int .i64 cl, .slice a2 rn b2, .slice a3 ln b3, .slice a4 bn b4] 217))) := (Only.refl [] w).alloc _
    clear h hk ho hi e2 e3 e4
    go_enter Tryz.func129, Tryz.ntmps129
    go_wp2_with fail
    refine h1.mono ?_
    rintro e _ ⟨rfl, rfl⟩
    go_wp2_with fail
    have hrow : Row (w.alloc (.cells #[.int .i64 kd, .int .i64 cl, .slice a2 rn b2, .slice a3 ln b3, .slice a4 bn b4] 217)) w.heap.size 217 [.int .i64 kd, .int .i64 cl, .slice a2 rn b2, .slice a3 ln b3, .slice a4 bn b4] := Row.new w _ [_, _, _, _, _]
    generalize (w.alloc (.cells #[.int .i64 kd, .int .i64 cl, .slice a2 rn b2, .slice a3 ln b3, .slice a4 bn b4] 217)) = w6 at *
    generalize hy : w.heap.size = y at *
    clear hy
    have f0 := hrow.cell 0 rfl
    have f1 := hrow.cell 1 rfl
    have f3 := hrow.cell 3 rfl
    clear hrow h1 h2 c0 c1 c2 c3 c4
    go_quiet (fail)
    go_wp2_with fail
    refine bodyPost_ret (results_tmp4 rfl _ _ _) rfl ?_
    exact hR.out _ _ ⟨rfl, hO.out.drewN _⟩
end
end Go.Proofs.YthflghdaejbdkaaGreat
namespace Go.Proofs.YthflghdaejbdkaaGreat
open Go.RowKit Go.Maps
set_option maxHeartbeats 3200000
set_option maxRecDepth 100000
set_option linter.unusedVariables false
section
variable {L : Nat → Option Gb} {hb : Nat} {M : Hp} {X : GX}
end
end Go.Proofs.YthflghdaejbdkaaGreat
namespace Go.Proofs.YthflghdaejbdkaaGreat
open Go.RowKit Go.Maps
set_option maxHeartbeats 3200000
set_option maxRecDepth 100000
set_option linter.unusedVariables false
theorem Hp.handlesN_len (M : Hp) (k : Nat) : (M.handlesN k).length ≤ k := by
  induction k with
  | zero => exact Nat.le_refl _
  | succ k ih =>
    show (M.handlesN k ++ _).length ≤ _
    rw [List.length_append]
    split <;> simp <;> omega
section
variable {L : Nat → Option Gb} {hb : Nat} {M : Hp} {X : GX}
end
end Go.Proofs.YthflghdaejbdkaaGreat
namespace Go.Proofs.YthflghdaejbdkaaGreat
open Go.RowKit Go.Maps
set_option maxHeartbeats 3200000
set_option maxRecDepth 100000
set_option linter.unusedVariables false
end Go.Proofs.YthflghdaejbdkaaGreat
namespace Go.Proofs.YthflghdaejbdkaaGreat
open Go.RowKit Go.Maps
set_option maxHeartbeats 3200000
set_option maxRecDepth 100000
set_option linter.unusedVariables false
section
variable {w w' : World} {L : Nat → Option Gb} {hb : Nat} {X : GX} {P : Pl} {ob : Int → Option Th}
def PoolL (o : Option Gb) : Prop := o = some .pq ∨ o = some .pk ∨ o = some .pc ∨ o = some .pl
theorem PoolL.ne {k : Nat} {ℓ : Gb} (h : PoolL (L k)) (h1 : ℓ ≠ .pq) (h2 : ℓ ≠ .pk) (h3 : ℓ ≠ .pc) (h4 : ℓ ≠ .pl) : L k ≠ some ℓ := fun e => by
  rcases h with h | h | h | h <;> rw [h] at e <;> cases e
  · exact h1 rfl
  · exact h2 rfl
  · exact h3 rfl
  · exact h4 rfl
theorem GRep.only4 (h : GRep w L hb ⟨P, ob⟩ X) (hg : Only [X.k, X.c, X.l] w w') : OnlyP (fun k => PoolL (L k)) w w' := hg.toP (fun x hx => .inl (by
  simp at hx
  rcases hx with rfl | rfl | rfl
  · exact .inr (.inl h.Lk)
  · exact .inr (.inr (.inl h.Lc))
  · exact .inr (.inr (.inr h.Ll))))
theorem GRep.poolTurnP {P' : Pl} (h : GRep w L hb ⟨P, ob⟩ X) (hP : OnlyP (fun k => PoolL (L k)) w w') (hp : RRep w' X.q X.k X.c X.l P') : GRep w' L hb ⟨P', ob⟩ X := by
  obtain ⟨T1, m1⟩ := h.mem
  obtain ⟨T2, cs, m2, n2⟩ := h.ob
  exact ⟨fun k hk => Nat.lt_of_lt_of_le (h.lt k hk) hP.size, ⟨T1, hP.row m1 (fun x => x.ne (ℓ := .mem) (by simp) (by simp) (by simp) (by simp) h.Lm)⟩, h.Lm, hp, h.Lq, h.Lk, h.Lc, h.Ll,
    ⟨T2, cs, hP.row m2 (fun x => x.ne (ℓ := .objs) (by simp) (by simp) (by simp) (by simp) h.Lo), n2⟩, h.Lo, fun k t hk => (h.th k t hk).only hP (fun x hx => ⟨hx.ne (by simp) (by simp) (by simp) (by simp), hx.ne (by simp) (by simp) (by simp) (by simp), hx.ne (by simp) (by simp) (by simp) (by simp)⟩)⟩
theorem GRep.poolTurn {P' : Pl} (h : GRep w L hb ⟨P, ob⟩ X) (hg : Only [X.k, X.c, X.l] w w') (hp : RRep w' X.q X.k X.c X.l P') : GRep w' L hb ⟨P', ob⟩ X := h.poolTurnP (h.only4 hg) hp
end
end Go.Proofs.YthflghdaejbdkaaGreat
