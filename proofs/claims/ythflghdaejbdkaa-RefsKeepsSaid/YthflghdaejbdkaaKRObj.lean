/- Lemmas of this claim. -/
import Derived.Test.YthflghdaejbdkaaKObjG
import Derived.Test.YthflghdaejbdkaaKRBlockE
namespace Go.Proofs.Ythflghdaejbdkaa
open Go.RowKit Go.Maps
set_option maxHeartbeats 1600000
set_option maxRecDepth 100000
set_option linter.unusedVariables false
inductive Gb | mem | pq | pk | pc | pl | objs | rb (h : Int) | sl (h : Int) | bl (h : Int)
  deriving DecidableEq
def gFld (o : Option Th) (rv sv bv : Value) : Nat → Value
  | 0 => .int .i64 (match o with | none => 0 | some o => o.kind)
  | 1 => .int .i64 (match o with | none => 0 | some o => o.cls)
  | 2 => match o with | none => .slice none 0 0 | some _ => rv
  | 3 => match o with | none => .slice none 0 0 | some _ => sv
  | _ => match o with | none => .slice none 0 0 | some _ => bv
structure GX where
  q : Nat
  k : Nat
  c : Nat
  l : Nat
  og : Nat
  oc : Nat
  rv : Int → Value
  sv : Int → Value
  bv : Int → Value
structure GTh (w : World) (L : Nat → Option Gb) (h : Int) (rv sv bv : Value) (o : Th) : Prop where
  rb : Bls w 0 rv o.refs
  Lr : ∀ g, rv.ownBlock = some g → L g = some (.rb h)
  sl : Ints w 0 sv o.slots
  Ls : ∀ g, sv.ownBlock = some g → L g = some (.sl h)
  bl : Ints w 0 bv o.blocks
  Lb : ∀ g, bv.ownBlock = some g → L g = some (.bl h)
structure GRep (w : World) (L : Nat → Option Gb) (hb : Nat) (M : Hp) (X : GX) : Prop where
  lt : ∀ k, L k ≠ none → k < w.heap.size
  mem : ∃ T, Row w hb T [.slice (some ⟨X.og, 0, none⟩) 193 X.oc, .pointer (some ⟨X.q, 0, none⟩)]
  Lm : L hb = some .mem
  pool : RRep w X.q X.k X.c X.l M.P
  Lq : L X.q = some .pq
  Lk : L X.k = some .pk
  Lc : L X.c = some .pc
  Ll : L X.l = some .pl
  ob : ∃ T cs, Row w X.og T cs ∧ ∀ i : Nat, i < 193 → ∀ j, j < 5 → cs[i * 5 + j]? = some (gFld (M.ob i) (X.rv i) (X.sv i) (X.bv i) j)
  Lo : L X.og = some .objs
  th : ∀ h o, M.ob h = some o → GTh w L h (X.rv h) (X.sv h) (X.bv h) o
section
variable {w w' : World} {S : Nat → Prop} {L L' : Nat → Option Gb} {hb : Nat} {M : Hp} {X : GX}
theorem RRep.onlyP {q k c l : Nat} {P : Pl} (h : RRep w q k c l P) (o : OnlyP S w w') (h1 : ¬ S q) (h2 : ¬ S k) (h3 : ¬ S c) (h4 : ¬ S l) : RRep w' q k c l P :=
  ⟨by obtain ⟨T, c1, c2, c3, r⟩ := h.hq; exact ⟨T, c1, c2, c3, o.row r h1⟩, h.rk.imp fun _ x => x.imp fun _ y => o.row y h2, h.rc.imp fun _ x => x.imp fun _ y => o.row y h3, h.rl.imp fun _ x => x.imp fun _ y => o.row y h4,
   fun i hi => o.cell (h.kind i hi) h2, fun i hi j hj => o.cell (h.cells i hi j hj) h3, fun i hi j hj => o.cell (h.live i hi j hj) h4, h.ne, h.n1, h.n24⟩
theorem GTh.only {h : Int} {rv sv bv : Value} {o : Th} (k : GTh w L h rv sv bv o) (hg : OnlyP S w w') (hS : ∀ x, S x → L x ≠ some (.rb h) ∧ L x ≠ some (.sl h) ∧ L x ≠ some (.bl h)) : GTh w' L h rv sv bv o :=
  ⟨k.rb.onlyP hg (fun g hgv x => (hS g x).1 (k.Lr g hgv)), k.Lr, k.sl.onlyP hg (fun g hgv x => (hS g x).2.1 (k.Ls g hgv)), k.Ls, k.bl.onlyP hg (fun g hgv x => (hS g x).2.2 (k.Lb g hgv)), k.Lb⟩
theorem GRep.only (h : GRep w L hb M X) (hg : OnlyP S w w') (hS : ∀ k, S k → L k = none) : GRep w' L hb M X := by
  have hne : ∀ k ℓ, S k → L k ≠ some ℓ := fun k ℓ hk e => by rw [hS k hk] at e; cases e
  obtain ⟨T1, m1⟩ := h.mem
  obtain ⟨T2, cs, m2, n2⟩ := h.ob
  exact ⟨fun k hk => Nat.lt_of_lt_of_le (h.lt k hk) hg.size, ⟨T1, hg.row m1 (fun x => hne _ _ x h.Lm)⟩, h.Lm, h.pool.onlyP hg (fun x => hne _ _ x h.Lq) (fun x => hne _ _ x h.Lk) (fun x => hne _ _ x h.Lc) (fun x => hne _ _ x h.Ll), h.Lq, h.Lk, h.Lc, h.Ll,
    ⟨T2, cs, hg.row m2 (fun x => hne _ _ x h.Lo), n2⟩, h.Lo, fun k t hk => (h.th k t hk).only hg (fun x hx => ⟨hne x _ hx, hne x _ hx, hne x _ hx⟩)⟩
theorem GRep.only0 (h : GRep w L hb M X) (hg : Only [] w w') : GRep w' L hb M X := h.only (hg.toP0 (S := fun _ => False)) (fun _ x => x.elim)
theorem GRep.drew (h : GRep w L hb M X) : GRep w.drew L hb M X := h.only ((OnlyP.refl (fun _ => False) w).drew) (fun _ x => x.elim)
theorem glab_of {ℓ : Gb} {g : Nat} (hL : ∀ k, L k ≠ none → L' k = L k) (h : L g = some ℓ) : L' g = some ℓ := by rw [hL g (by rw [h]; simp)]; exact h
theorem GTh.lab {h : Int} {rv sv bv : Value} {o : Th} (k : GTh w L h rv sv bv o) (hL : ∀ k, L k ≠ none → L' k = L k) : GTh w L' h rv sv bv o :=
  ⟨k.rb, fun g hg => glab_of hL (k.Lr g hg), k.sl, fun g hg => glab_of hL (k.Ls g hg), k.bl, fun g hg => glab_of hL (k.Lb g hg)⟩
theorem GRep.cells (h : GRep w L hb M X) : w.cell? ⟨hb, 0, none⟩ = some (.slice (some ⟨X.og, 0, none⟩) 193 X.oc) ∧ w.cell? ⟨hb, 1, none⟩ = some (.pointer (some ⟨X.q, 0, none⟩)) ∧ (∀ i, w.frozen? ⟨hb, i, none⟩ = false) ∧ (∀ i, w.frozen? ⟨X.og, i, none⟩ = false) := by
  obtain ⟨T, hr⟩ := h.mem
  obtain ⟨T2, cs, m2, n2⟩ := h.ob
  exact ⟨hr.cell 0 rfl, hr.cell 1 rfl, fun i => hr.free i, fun i => m2.free i⟩
theorem GRep.obj (h : GRep w L hb M X) {i : Nat} (hi : i < 193) {j : Nat} (hj : j < 5) : w.cell? ⟨X.og, i * 5 + j, none⟩ = some (gFld (M.ob i) (X.rv i) (X.sv i) (X.bv i) j) := by
  obtain ⟨T2, cs, m2, n2⟩ := h.ob
  exact m2.cell _ (n2 i hi j hj)
theorem GRep.objNone (h : GRep w L hb M X) {i : Nat} (hi : i < 193) (ho : M.ob i = none) : w.cell? ⟨X.og, i * 5, none⟩ = some (.int .i64 0) := by
  have := h.obj hi (j := 0) (by omega)
  rw [ho] at this
  exact this
theorem GRep.objSome (h : GRep w L hb M X) {i : Nat} (hi : i < 193) {o : Th} (ho : M.ob i = some o) : w.cell? ⟨X.og, i * 5, none⟩ = some (.int .i64 o.kind) ∧ w.cell? ⟨X.og, i * 5 + 1, none⟩ = some (.int .i64 o.cls) ∧ w.cell? ⟨X.og, i * 5 + 2, none⟩ = some (X.rv i) ∧ w.cell? ⟨X.og, i * 5 + 3, none⟩ = some (X.sv i) ∧ w.cell? ⟨X.og, i * 5 + 4, none⟩ = some (X.bv i) := by
  have h0 := h.obj hi (j := 0) (by omega)
  have h1 := h.obj hi (j := 1) (by omega)
  have h2 := h.obj hi (j := 2) (by omega)
  have h3 := h.obj hi (j := 3) (by omega)
  have h4 := h.obj hi (j := 4) (by omega)
  rw [ho] at h0 h1 h2 h3 h4
  exact ⟨h0, h1, h2, h3, h4⟩
end
theorem gthere_nil (w : World) : Calls Try.prog 25 #[.pointer none] w (Exact w (.bool false)) := by
  refine calls_abs fun R hR => ?_
  go_enter Try.func25, Try.ntmps25
  go_wp2_with fail
  exact hR.out _ _ ⟨rfl, rfl⟩
section
variable {L : Nat → Option Gb} {hb : Nat} {M : Hp} {X : GX}
theorem gthere_rep (w : World) (h : GRep w L hb M X) : Calls Try.prog 25 #[.pointer (some ⟨hb, 0, none⟩)] w (Exact w (.bool true)) := by
  refine calls_abs fun R hR => ?_
  have h1 := h.cells.2.1
  clear h
  go_enter Try.func25, Try.ntmps25
  go_wp2_with fail
  exact hR.out _ _ ⟨rfl, rfl⟩
theorem gin_rep (w : World) (h : GRep w L hb M X) (hk : M.Ok) (x : Int) : Calls Try.prog 7 #[.pointer (some ⟨hb, 0, none⟩), .int .i64 x] w (Exact w (.bool (M.ob x).isSome)) := by
  refine calls_abs fun R hR => ?_
  have h1 := gthere_rep w h
  have h2 := h.cells.1
  by_cases hx : 1 ≤ x ∧ x < 193
  · obtain ⟨i, rfl⟩ : ∃ i : Nat, x = i := ⟨x.toNat, by omega⟩
    have hi : i < 193 := by omega
    obtain ⟨x1, x2⟩ := hx
    have x0 : (0 : Int) ≤ i := by omega
    cases ho : M.ob (i : Int) with
    | none =>
      rw [ho] at hR
      have h3 := h.objNone hi ho
      clear h ho hk
      go_enter Try.func7, Try.ntmps7
      go_wp2_with fail
      refine h1.mono ?_
      rintro e _ ⟨rfl, rfl⟩
      go_wp2_with fail
      exact hR.out _ _ ⟨rfl, rfl⟩
    | some o =>
      rw [ho] at hR
      have h3 := (h.objSome hi ho).1
      have hkd : (o.kind != 0) = true := by
        have := (hk.th _ o ho).kd
        simp
        omega
      clear h ho hk
      go_enter Try.func7, Try.ntmps7
      go_wp2_with fail
      refine h1.mono ?_
      rintro e _ ⟨rfl, rfl⟩
      go_wp2_with fail
      exact hR.out _ _ ⟨rfl, rfl⟩
  · have ho : M.ob x = none := by
      cases ho : M.ob x with
      | none => rfl
      | some o => exact absurd (hk.hr x o ho) (by omega)
    rw [ho] at hR
    by_cases h3 : 1 ≤ x
    · have h4 : ¬ x < 193 := by omega
      clear h ho hk hx
      go_enter Try.func7, Try.ntmps7
      go_wp2_with fail
      refine h1.mono ?_
      rintro e _ ⟨rfl, rfl⟩
      go_wp2_with fail
      exact hR.out _ _ ⟨rfl, rfl⟩
    · clear h ho hk hx
      go_enter Try.func7, Try.ntmps7
      go_wp2_with fail
      refine h1.mono ?_
      rintro e _ ⟨rfl, rfl⟩
      go_wp2_with fail
      exact hR.out _ _ ⟨rfl, rfl⟩
end
end Go.Proofs.Ythflghdaejbdkaa
namespace Go.Proofs.Ythflghdaejbdkaa
open Go.RowKit Go.Maps
set_option maxHeartbeats 1600000
set_option maxRecDepth 100000
set_option linter.unusedVariables false
theorem Hp.Ok.idx {M : Hp} (hk : M.Ok) {x : Int} {o : Th} (ho : M.ob x = some o) : ∃ i : Nat, x = (i : Int) ∧ i < 193 ∧ (0 : Int) ≤ i ∧ (i : Int) < 193 := by
  have := hk.hr x o ho
  exact ⟨x.toNat, by omega, by omega, by omega, by omega⟩
theorem Bls.cellsOf {w : World} {base : Nat} {v : Value} {l : List Bool} (h : Bls w base v l) (h0 : 1 ≤ l.length) : ∃ g cap, v = .slice (some ⟨g, 0, none⟩) l.length cap ∧ ∀ i, i < l.length → w.cell? ⟨g, i, none⟩ = some (.bool (gB l i)) := by
  rcases h.form with ⟨_, e⟩ | ⟨g, cap, e, _, _, _, hc⟩
  · rw [e] at h0; simp at h0
  · exact ⟨g, cap, e, hc⟩
theorem gused_nil (w : World) (x : Int) : Calls Try.prog 50 #[.pointer none, .int .i64 x] w (Exact w (.int .i64 1)) := by
  refine calls_abs fun R hR => ?_
  have h1 := gthere_nil w
  go_enter Try.func50, Try.ntmps50
  go_wp2_with fail
  refine h1.mono ?_
  rintro e _ ⟨rfl, rfl⟩
  go_wp2_with fail
  exact hR.out _ _ ⟨rfl, rfl⟩
theorem gslot_nil (w : World) (x s : Int) : Calls Try.prog 47 #[.pointer none, .int .i64 x, .int .i64 s] w (Exact w (.int .i64 1)) := by
  refine calls_abs fun R hR => ?_
  have h1 := gused_nil w x
  go_enter Try.func47, Try.ntmps47
  go_wp2_with fail
  refine h1.mono ?_
  rintro e _ ⟨rfl, rfl⟩
  go_wp2_with fail
  exact hR.out _ _ ⟨rfl, rfl⟩
section
variable {L : Nat → Option Gb} {hb : Nat} {M : Hp} {X : GX}
theorem gused_rep (w : World) (h : GRep w L hb M X) (hk : M.Ok) (x : Int) : Calls Try.prog 50 #[.pointer (some ⟨hb, 0, none⟩), .int .i64 x] w (Exact w (.int .i64 (if (M.ob x).isSome then 0 else 3))) := by
  refine calls_abs fun R hR => ?_
  have h1 := gthere_rep w h
  have h2 := gin_rep w h hk x
  clear h hk
  generalize (M.ob x).isSome = b at *
  cases b <;> (
    go_enter Try.func50, Try.ntmps50
    go_wp2_with fail
    refine h1.mono ?_
    rintro e _ ⟨rfl, rfl⟩
    go_wp2_with fail
    refine h2.mono ?_
    rintro e _ ⟨rfl, rfl⟩
    go_wp2_with fail
    exact hR.out _ _ ⟨rfl, rfl⟩)
theorem gused_none (w : World) (h : GRep w L hb M X) (hk : M.Ok) (x : Int) (ho : M.ob x = none) : Calls Try.prog 50 #[.pointer (some ⟨hb, 0, none⟩), .int .i64 x] w (Exact w (.int .i64 3)) := by
  have := gused_rep w h hk x
  rw [ho] at this
  exact this
theorem gused_some (w : World) (h : GRep w L hb M X) (hk : M.Ok) (x : Int) {o : Th} (ho : M.ob x = some o) : Calls Try.prog 50 #[.pointer (some ⟨hb, 0, none⟩), .int .i64 x] w (Exact w (.int .i64 0)) := by
  have := gused_rep w h hk x
  rw [ho] at this
  exact this
theorem gslot_none (w : World) (h : GRep w L hb M X) (hk : M.Ok) (x s : Int) (ho : M.ob x = none) : Calls Try.prog 47 #[.pointer (some ⟨hb, 0, none⟩), .int .i64 x, .int .i64 s] w (Exact w (.int .i64 3)) := by
  refine calls_abs fun R hR => ?_
  have h1 := gused_none w h hk x ho
  clear h hk ho
  go_enter Try.func47, Try.ntmps47
  go_wp2_with fail
  refine h1.mono ?_
  rintro e _ ⟨rfl, rfl⟩
  go_wp2_with fail
  exact hR.out _ _ ⟨rfl, rfl⟩
theorem gslot_some (w : World) (h : GRep w L hb M X) (hk : M.Ok) (x s : Int) {o : Th} (ho : M.ob x = some o) : Calls Try.prog 47 #[.pointer (some ⟨hb, 0, none⟩), .int .i64 x, .int .i64 s] w (Exact w (.int .i64 (if s < 0 ∨ (o.slots.length : Int) ≤ s then 1 else 0))) := by
  refine calls_abs fun R hR => ?_
  have h1 := gused_some w h hk x ho
  have h2 := h.cells.1
  obtain ⟨i, rfl, hi, x0, x1⟩ := hk.idx ho
  have h3 := (h.objSome hi ho).2.2.2.1
  obtain ⟨a, c, hs⟩ := (h.th _ o ho).sl.len
  rw [hs] at h3
  clear h hk ho hs hi
  generalize o.slots.length = n at *
  by_cases b1 : s < 0
  · rw [if_pos (.inl b1)] at hR
    go_enter Try.func47, Try.ntmps47
    go_wp2_with fail
    refine h1.mono ?_
    rintro e _ ⟨rfl, rfl⟩
    go_wp2_with fail
    exact hR.out _ _ ⟨rfl, rfl⟩
  · by_cases b2 : (n : Int) ≤ s
    · rw [if_pos (.inr b2)] at hR
      go_enter Try.func47, Try.ntmps47
      go_wp2_with fail
      refine h1.mono ?_
      rintro e _ ⟨rfl, rfl⟩
      go_wp2_with fail
      exact hR.out _ _ ⟨rfl, rfl⟩
    · rw [if_neg (by omega)] at hR
      go_enter Try.func47, Try.ntmps47
      go_wp2_with fail
      refine h1.mono ?_
      rintro e _ ⟨rfl, rfl⟩
      go_wp2_with fail
      exact hR.out _ _ ⟨rfl, rfl⟩
theorem gslot_bad (w : World) (h : GRep w L hb M X) (hk : M.Ok) (x s : Int) {o : Th} (ho : M.ob x = some o) (hs : s < 0 ∨ (o.slots.length : Int) ≤ s) : Calls Try.prog 47 #[.pointer (some ⟨hb, 0, none⟩), .int .i64 x, .int .i64 s] w (Exact w (.int .i64 1)) := by
  have := gslot_some w h hk x s ho
  rwa [if_pos hs] at this
theorem gslot_ok (w : World) (h : GRep w L hb M X) (hk : M.Ok) (x s : Int) {o : Th} (ho : M.ob x = some o) (hs : ¬ (s < 0 ∨ (o.slots.length : Int) ≤ s)) : Calls Try.prog 47 #[.pointer (some ⟨hb, 0, none⟩), .int .i64 x, .int .i64 s] w (Exact w (.int .i64 0)) := by
  have := gslot_some w h hk x s ho
  rwa [if_neg hs] at this
end
end Go.Proofs.Ythflghdaejbdkaa
namespace Go.Proofs.Ythflghdaejbdkaa
open Go.RowKit Go.Maps
set_option maxHeartbeats 3200000
set_option maxRecDepth 100000
set_option linter.unusedVariables false
section
variable {L : Nat → Option Gb} {hb : Nat} {M : Hp} {X : GX}
theorem gtype_rep (w : World) (h : GRep w L hb M X) (hk : M.Ok) (x : Int) : Calls Try.prog 91 #[.pointer (some ⟨hb, 0, none⟩), .int .i64 x] w (fun e w' => e = .returned (.tuple #[.int .i64 (M.type x).1, .int .i64 (M.type x).2.1, .int .i64 (M.type x).2.2.1, .int .i64 (M.type x).2.2.2]) ∧ Only [] w w') := by
  refine calls_abs fun R hR => ?_
  unfold Hp.type at hR
  cases ho : M.ob x with
  | none =>
    rw [ho] at hR
    have h1 := gused_none w h hk x ho
    clear h hk ho
    go_enter Try.func91, Try.ntmps91
    go_wp2_with fail
    refine h1.mono ?_
    rintro e _ ⟨rfl, rfl⟩
    go_wp2_with fail
    refine bodyPost_ret (results_tmp4 rfl _ _ _) rfl ?_
    exact hR.out _ _ ⟨rfl, Only.refl _ _⟩
  | some o =>
    rw [ho] at hR
    have h1 := gused_some w h hk x ho
    have h2 := h.cells.1
    obtain ⟨i, rfl, hi, x0, x1⟩ := hk.idx ho
    obtain ⟨c0, c1, c2, c3, c4⟩ := h.objSome hi ho
    obtain ⟨a2, b2, e2⟩ := (h.th _ o ho).rb.len
    obtain ⟨a3, b3, e3⟩ := (h.th _ o ho).sl.len
    obtain ⟨a4, b4, e4⟩ := (h.th _ o ho).bl.len
    rw [e2] at c2
    rw [e3] at c3
    rw [e4] at c4
    replace hR : Hid (∀ e w', e = .returned (.tuple #[.int .i64 o.kind, .int .i64 o.cls, .int .i64 o.slots.length, .int .i64 0]) ∧ Only [] w w' → R e w') := hR
    generalize o.kind = kd at *
    generalize o.cls = cl at *
    generalize o.slots.length = ln at *
    generalize o.refs.length = rn at *
    generalize o.blocks.length = bn at *
    generalize X.og = og at *
    have hO : Hid (Only [] w (w.alloc (.cells #[.int .i64 kd, .int .i64 cl, .slice a2 rn b2, .slice a3 ln b3, .slice a4 bn b4] 73))) := (Only.refl [] w).alloc _
    clear h hk ho hi e2 e3 e4
    go_enter Try.func91, Try.ntmps91
    go_wp2_with fail
    refine h1.mono ?_
    rintro e _ ⟨rfl, rfl⟩
    go_wp2_with fail
    have hrow : Row (w.alloc (.cells #[.int .i64 kd, .int .i64 cl, .slice a2 rn b2, .slice a3 ln b3, .slice a4 bn b4] 73)) w.heap.size 73 [.int .i64 kd, .int .i64 cl, .slice a2 rn b2, .slice a3 ln b3, .slice a4 bn b4] := Row.new w _ [_, _, _, _, _]
    generalize (w.alloc (.cells #[.int .i64 kd, .int .i64 cl, .slice a2 rn b2, .slice a3 ln b3, .slice a4 bn b4] 73)) = w6 at *
    generalize hy : w.heap.size = y at *
    clear hy
    have f0 := hrow.cell 0 rfl
    have f1 := hrow.cell 1 rfl
    have f3 := hrow.cell 3 rfl
    clear hrow h1 h2 c0 c1 c2 c3 c4
    go_quiet (fail)
    go_wp2_with fail
    refine bodyPost_ret (results_tmp4 rfl _ _ _) rfl ?_
    exact hR.out _ _ ⟨rfl, hO.out.drewN _⟩
end
end Go.Proofs.Ythflghdaejbdkaa
namespace Go.Proofs.Ythflghdaejbdkaa
open Go.RowKit Go.Maps
set_option maxHeartbeats 3200000
set_option maxRecDepth 100000
set_option linter.unusedVariables false
section
variable {L : Nat → Option Gb} {hb : Nat} {M : Hp} {X : GX}
theorem grefs_rep (w : World) (h : GRep w L hb M X) (hk : M.Ok) (x : Int) : Calls Try.prog 26 #[.pointer (some ⟨hb, 0, none⟩), .int .i64 x] w (TwoL w (M.refs x)) := by
  refine calls_abs fun R hR => ?_
  unfold Hp.refs at hR
  cases ho : M.ob x with
  | none =>
    rw [ho] at hR
    have h1 := gused_none w h hk x ho
    clear h hk ho
    go_enter Try.func26, Try.ntmps26
    go_wp2_with fail
    refine h1.mono ?_
    rintro e _ ⟨rfl, rfl⟩
    go_wp2_with fail
    exact hR.out _ _ ⟨_, rfl, Ints.nil _ _, Only.refl _ _⟩
  | some o =>
    rw [ho] at hR
    have h1 := gused_some w h hk x ho
    have h2 := h.cells.1
    have hle := (hk.th x o ho).le
    have hrl := (hk.th x o ho).rl
    obtain ⟨i, rfl, hi, x0, x1⟩ := hk.idx ho
    obtain ⟨c0, c1, c2, c3, c4⟩ := h.objSome hi ho
    obtain ⟨a2, b2, e2⟩ := (h.th _ o ho).rb.len
    obtain ⟨a3, b3, e3⟩ := (h.th _ o ho).sl.len
    obtain ⟨a4, b4, e4⟩ := (h.th _ o ho).bl.len
    have hrb := (h.th _ o ho).rb
    have hsl := (h.th _ o ho).sl
    rw [e2] at c2 hrb
    rw [e3] at c3 hsl
    rw [e4] at c4
    rw [hrl] at c2 hrb
    have HRB := Lib.hid hrb
    have HSL := Lib.hid hsl
    obtain ⟨n, hn⟩ : ∃ n, n = o.slots.length := ⟨_, rfl⟩
    rw [← hn] at c2 c3 hle HRB HSL
    have HN := Lib.hid hn
    have HRL := Lib.hid hrl
    replace hR : Hid (∀ e w', TwoL w (o.refsN n, 0) e w' → R e w') := by rw [hn]; exact hR
    generalize X.og = og at *
    generalize o.kind = kd at *
    generalize o.cls = cl at *
    generalize o.blocks.length = bn at *
    have HRow : Hid (Row (w.alloc (.cells #[.int .i64 kd, .int .i64 cl, .slice a2 n b2, .slice a3 n b3, .slice a4 bn b4] 73)) w.heap.size 73 [.int .i64 kd, .int .i64 cl, .slice a2 n b2, .slice a3 n b3, .slice a4 bn b4]) := Row.new w _ [_, _, _, _, _]
    have HO6 : Hid (Only [] w (w.alloc (.cells #[.int .i64 kd, .int .i64 cl, .slice a2 n b2, .slice a3 n b3, .slice a4 bn b4] 73))) := (Only.refl [] w).alloc _
    clear h hk ho hi e2 e3 e4 hrb hsl hn hrl
    go_enter Try.func26, Try.ntmps26
    go_wp2_with fail
    refine h1.mono ?_
    rintro e _ ⟨rfl, rfl⟩
    go_wp2_with fail
    generalize (w.alloc (.cells #[.int .i64 kd, .int .i64 cl, .slice a2 n b2, .slice a3 n b3, .slice a4 bn b4] 73)) = w6 at *
    obtain ⟨y, hy⟩ : ∃ y, y = w.heap.size := ⟨_, rfl⟩
    rw [← hy] at HRow ⊢
    clear h1 h2 c0 c1 c2 c3 c4 hy
    go_loopw [8, 9] (fun v iv wr => ∃ k : Nat, k ≤ n ∧ iv = .int .i64 k ∧ Ints wr w6.heap.size v (o.refsN k) ∧ Only [] w6 wr) (fun _ iv _ => n - (intOf iv).toNat)
    case atStart => exact ⟨0, by omega, rfl, Ints.nil _ _, Only.refl _ _⟩
    case round =>
      obtain ⟨k, hk, rfl, hi, ho⟩ := hrel
      have HI := Lib.hid hi
      have HO := Lib.hid ho
      have hrow := ho.row HRow.out (by simp)
      have f2 : wr.cell? ⟨y, 2, none⟩ = _ := hrow.cell 2 rfl
      have f3 : wr.cell? ⟨y, 3, none⟩ = _ := hrow.cell 3 rfl
      obtain ⟨va, vc, hv⟩ := hi.len
      obtain ⟨vn, hvn⟩ : ∃ z, z = (o.refsN k).length := ⟨_, rfl⟩
      rw [← hvn] at hv
      subst hv
      have HVN := Lib.hid hvn
      clear hi ho hrow hvn
      by_cases hlt : k < n
      · obtain ⟨rg, hrg⟩ : ∃ rg, a2 = some ⟨rg, 0, none⟩ ∧ wr.cell? ⟨rg, k, none⟩ = some (.bool (gB o.refs k)) := by
          rcases (HRB.out.only (HO6.out.trans HO.out (by simp)) (by simp)).form with ⟨_, e⟩ | ⟨g, c, e, _, _, _, hc⟩
          · have e5 := HRL.out; rw [← HN.out, e] at e5; simp at e5; omega
          · cases e; exact ⟨g, rfl, hc k (by have := HRL.out; have := HN.out; omega)⟩
        obtain ⟨sg, hsg⟩ : ∃ sg, a3 = some ⟨sg, 0, none⟩ ∧ wr.cell? ⟨sg, k, none⟩ = some (.int .i64 (gI o.slots k)) := by
          rcases (HSL.out.only (HO6.out.trans HO.out (by simp)) (by simp)).form with ⟨_, e⟩ | ⟨g, c, e, _, _, _, hc⟩
          · have e5 := HN.out; rw [e] at e5; simp at e5; omega
          · cases e; exact ⟨g, rfl, hc k (by have := HN.out; omega)⟩
        obtain ⟨rfl, g1⟩ := hrg
        obtain ⟨rfl, g2⟩ := hsg
        have hlt1 : (k : Int) < n := by omega
        have hk0 : (0 : Int) ≤ k := by omega
        have hstep : Hid (o.refsN (k + 1) = o.refsN k ++ if gB o.refs k = true ∧ gI o.slots k ≠ 0 then [gI o.slots k] else []) := rfl
        have HLEN := Lib.hid (o.refsN_len k)
        generalize gI o.slots k = z at g2 hstep
        cases hg : gB o.refs k
        · rw [hg] at g1 hstep
          have hs2 : Hid (o.refsN (k + 1) = o.refsN k) := by show _ = _; rw [hstep.out]; simp
          clear hstep hg
          go_wp2_with fail
          exact ⟨⟨k + 1, by omega, by go_num, by rw [hs2.out]; exact HI.out, HO.out⟩, by simp [intOf]; omega⟩
        · rw [hg] at g1 hstep
          by_cases hz : z = 0
          · subst hz
            have hs2 : Hid (o.refsN (k + 1) = o.refsN k) := by show _ = _; rw [hstep.out]; simp
            clear hstep hg
            go_wp2_with fail
            exact ⟨⟨k + 1, by omega, by go_num, by rw [hs2.out]; exact HI.out, HO.out⟩, by simp [intOf]; omega⟩
          · have hs2 : Hid (o.refsN (k + 1) = o.refsN k ++ [z]) := by show _ = _; rw [hstep.out]; simp [hz]
            have hzb : (z != 0) = true := by simpa using hz
            clear hstep hg hz
            go_wp2_with (at_builtin; refine append_int1 rfl _ _ rfl w6.heap.size _ _ rfl (HI.out.alloc (.cells #[.int .i64 z] 3)) wr.heap.size z rfl ?c1 ?c2 ?c3 ?c4)
            case c1 => exact (Row.new wr _ [_]).cell 0 rfl
            case c2 => have := HLEN.out; omega
            case c3 => have := HO6.out.size; have := HO.out.size; simp; omega
            case c4 =>
              intro v' w2 hi2 ho2 hb2
              have HO4 : Hid (Only [] w6 w2) := own_past HO.out HI.out ho2
              have HI4 := Lib.hid hi2
              clear hi2 ho2 hb2
              go_wp2_with fail
              exact ⟨⟨k + 1, by omega, by go_num, by rw [hs2.out]; exact HI4.out, HO4.out⟩, by simp [intOf]; omega⟩
      · obtain rfl : k = n := by omega
        have hlt1 : ¬ (k : Int) < k := by omega
        go_wp2_with fail
        exact hR.out _ _ ⟨_, rfl, HI.out.base HO6.out.size, HO6.out.trans HO.out (by simp)⟩
end
end Go.Proofs.Ythflghdaejbdkaa
namespace Go.Proofs.Ythflghdaejbdkaa
open Go.RowKit Go.Maps
set_option maxHeartbeats 3200000
set_option maxRecDepth 100000
set_option linter.unusedVariables false
section
variable {L : Nat → Option Gb} {hb : Nat} {M : Hp} {X : GX}
end
end Go.Proofs.Ythflghdaejbdkaa
namespace Go.Proofs.Ythflghdaejbdkaa
open Go.RowKit Go.Maps
set_option maxHeartbeats 3200000
set_option maxRecDepth 100000
set_option linter.unusedVariables false
theorem needs_small2 {n : Nat} (h : n ≤ 7) {c : Int} (hc : fitC (1 + n) = c) : needs n = [c] := by rw [needs_small (by omega), hc]
theorem gneeds_any (w : World) (n : Nat) (hn : n ≤ 48) (a : Bool) (ha : a = false → n ≤ 7) : Calls Try.prog 67 #[.int .i64 n, .bool a] w (RetL w (needs n)) := by
  refine calls_abs fun R hR => ?_
  by_cases h7 : n ≤ 7
  · by_cases h1 : n ≤ 1
    · have e : Hid (needs n = [0]) := needs_small2 h7 (by unfold fitC; rw [if_pos (by omega)])
      have h1i : (n : Int) ≤ 1 := by omega
      have h7i : (n : Int) ≤ 7 := by omega
      rw [e.out] at hR
      clear e ha
      cases a <;> (
        go_enter Try.func67, Try.ntmps67
        go_wp2_with fail
        exact hR.out _ _ ⟨_, rfl, Ints.one w 0, (Only.refl [] w).alloc _⟩)
    · by_cases h3 : n ≤ 3
      · have e : Hid (needs n = [1]) := needs_small2 h7 (by unfold fitC; rw [if_neg (by omega), if_pos (by omega)])
        have h1i : ¬ (n : Int) ≤ 1 := by omega
        have h3i : (n : Int) ≤ 3 := by omega
        have h7i : (n : Int) ≤ 7 := by omega
        rw [e.out] at hR
        clear e ha
        cases a <;> (
          go_enter Try.func67, Try.ntmps67
          go_wp2_with fail
          exact hR.out _ _ ⟨_, rfl, Ints.one w 1, (Only.refl [] w).alloc _⟩)
      · have e : Hid (needs n = [2]) := needs_small2 h7 (by unfold fitC; rw [if_neg (by omega), if_neg (by omega)])
        have h1i : ¬ (n : Int) ≤ 1 := by omega
        have h3i : ¬ (n : Int) ≤ 3 := by omega
        have h7i : (n : Int) ≤ 7 := by omega
        rw [e.out] at hR
        clear e ha
        cases a <;> (
          go_enter Try.func67, Try.ntmps67
          go_wp2_with fail
          exact hR.out _ _ ⟨_, rfl, Ints.one w 2, (Only.refl [] w).alloc _⟩)
  · obtain rfl : a = true := by
      cases a with
      | true => rfl
      | false => exact absurd (ha rfl) h7
    have h7i : ¬ (n : Int) ≤ 7 := by omega
    have H7 : Hid (7 < n) := by show 7 < n; omega
    have hf : Hid (fitC (1 + n) = 2) := fitC_big (by omega)
    clear ha h7
    go_enter Try.func67, Try.ntmps67
    go_wp2_with fail
    have HSZ : Hid (Ints (w.alloc (.cells #[.int .i64 2] 3)) w.heap.size (.slice (some ⟨w.heap.size, 0, none⟩) 1 1) [2]) := Ints.one w 2
    have HO2 : Hid (Only [] w (w.alloc (.cells #[.int .i64 2] 3))) := (Only.refl [] w).alloc _
    generalize (w.alloc (.cells #[.int .i64 2] 3)) = w2 at *
    go_loopw [5, 6] (fun v iv wr => ∃ j : Nat, iv = .int .i64 (j * 8 : Nat) ∧ j ≤ 6 ∧ (j = 0 ∨ (j - 1) * 8 < n) ∧ Ints wr w.heap.size v (2 :: List.replicate j 2) ∧ Only [] w wr) (fun _ iv _ => 49 - (intOf iv).toNat)
    case atStart => exact ⟨0, rfl, by omega, .inl rfl, HSZ.out, HO2.out⟩
    case round =>
      clear HSZ HO2 w2
      obtain ⟨j, rfl, hj6, hj, hsz, ho⟩ := hrel
      obtain ⟨va, vc, hv⟩ := hsz.len
      rw [show (2 :: List.replicate j (2 : Int)).length = j + 1 by simp] at hv
      subst hv
      have HSZ := Lib.hid hsz
      have HO2 := Lib.hid ho
      obtain ⟨ji, hji⟩ : ∃ z : Int, z = ((j * 8 : Nat) : Int) := ⟨_, rfl⟩
      rw [← hji]
      have HJI := Lib.hid hji
      by_cases hlt : j * 8 < n
      · have hlt1 : ji < (n : Int) := by omega
        have hj0 : 0 ≤ ji := by omega
        obtain ⟨jn, hjn⟩ : ∃ z, z = j + 1 := ⟨_, rfl⟩
        rw [← hjn] at HSZ ⊢
        have HJN := Lib.hid hjn
        clear hji hsz ho hjn
        go_wp2_with (at_builtin; refine append_int1 rfl _ _ rfl w.heap.size _ _ rfl (HSZ.out.alloc _) wr.heap.size 2 rfl ?c1 ?c2 ?c3 ?c4)
        case c1 => exact (Row.new wr _ [_]).cell 0 rfl
        case c2 => simp; omega
        case c3 => have := HO2.out.size; simp; omega
        case c4 =>
          intro v' w5 hv1 ho1 hb1
          have HV5 := Lib.hid hv1
          have HO5 : Hid (Only [] w w5) := own_past HO2.out HSZ.out ho1
          clear hv1 ho1 hb1 HSZ HO2
          go_wp2_with fail
          refine ⟨⟨j + 1, ?_, ?_, ?_, ?_, HO5.out⟩, ?_⟩
          · have := HJI.out; go_num
          · omega
          · right; show j * 8 < n; omega
          · have := HV5.out; rw [cons_rep] at this; exact this
          · have := HJI.out; simp [intOf]; omega
      · have hlt1 : ¬ ji < (n : Int) := by omega
        have HNE : Hid (2 :: List.replicate j (2 : Int) = needs n) := by
          have := needs_grow H7.out hlt (by have := H7.out; omega) (by have := H7.out; omega)
          rw [hf.out] at this
          exact this
        clear hsz ho hji hj hj6
        go_wp2_with fail
        exact hR.out _ _ ⟨_, rfl, by rw [← HNE.out]; exact HSZ.out, HO2.out⟩
end Go.Proofs.Ythflghdaejbdkaa
namespace Go.Proofs.Ythflghdaejbdkaa
open Go.RowKit Go.Maps
set_option maxHeartbeats 3200000
set_option maxRecDepth 100000
set_option linter.unusedVariables false
structure LayOk (o : Th) : Prop where
  b1 : 1 ≤ o.blocks.length
  b7 : o.blocks.length ≤ 7
  s48 : o.slots.length ≤ 48
  rng : ∀ m, m < o.blocks.length → 0 ≤ gI o.blocks m ∧ gI o.blocks m < 384
  leaf : 1 < o.blocks.length → ∀ s, s < o.slots.length → 1 + s / 8 < o.blocks.length
section
variable {w w' : World} {L : Nat → Option Gb} {hb : Nat} {X : GX} {P : Pl} {ob : Int → Option Th}
def PoolL (o : Option Gb) : Prop := o = some .pq ∨ o = some .pk ∨ o = some .pc ∨ o = some .pl
theorem PoolL.ne {k : Nat} {ℓ : Gb} (h : PoolL (L k)) (h1 : ℓ ≠ .pq) (h2 : ℓ ≠ .pk) (h3 : ℓ ≠ .pc) (h4 : ℓ ≠ .pl) : L k ≠ some ℓ := fun e => by
  rcases h with h | h | h | h <;> rw [h] at e <;> cases e
  · exact h1 rfl
  · exact h2 rfl
  · exact h3 rfl
  · exact h4 rfl
theorem GRep.only4 (h : GRep w L hb ⟨P, ob⟩ X) (hg : Only [X.k, X.c, X.l] w w') : OnlyP (fun k => PoolL (L k)) w w' := hg.toP (fun x hx => .inl (by
  simp at hx
  rcases hx with rfl | rfl | rfl
  · exact .inr (.inl h.Lk)
  · exact .inr (.inr (.inl h.Lc))
  · exact .inr (.inr (.inr h.Ll))))
theorem GRep.poolTurnP {P' : Pl} (h : GRep w L hb ⟨P, ob⟩ X) (hP : OnlyP (fun k => PoolL (L k)) w w') (hp : RRep w' X.q X.k X.c X.l P') : GRep w' L hb ⟨P', ob⟩ X := by
  obtain ⟨T1, m1⟩ := h.mem
  obtain ⟨T2, cs, m2, n2⟩ := h.ob
  exact ⟨fun k hk => Nat.lt_of_lt_of_le (h.lt k hk) hP.size, ⟨T1, hP.row m1 (fun x => x.ne (ℓ := .mem) (by simp) (by simp) (by simp) (by simp) h.Lm)⟩, h.Lm, hp, h.Lq, h.Lk, h.Lc, h.Ll,
    ⟨T2, cs, hP.row m2 (fun x => x.ne (ℓ := .objs) (by simp) (by simp) (by simp) (by simp) h.Lo), n2⟩, h.Lo, fun k t hk => (h.th k t hk).only hP (fun x hx => ⟨hx.ne (by simp) (by simp) (by simp) (by simp), hx.ne (by simp) (by simp) (by simp) (by simp), hx.ne (by simp) (by simp) (by simp) (by simp)⟩)⟩
theorem GRep.poolTurn {P' : Pl} (h : GRep w L hb ⟨P, ob⟩ X) (hg : Only [X.k, X.c, X.l] w w') (hp : RRep w' X.q X.k X.c X.l P') : GRep w' L hb ⟨P', ob⟩ X := h.poolTurnP (h.only4 hg) hp
theorem GRep.notP (h : GRep w L hb ⟨P, ob⟩ X) {g : Nat} {ℓ : Gb} (hg : L g = some ℓ) (h1 : ℓ ≠ .pq) (h2 : ℓ ≠ .pk) (h3 : ℓ ≠ .pc) (h4 : ℓ ≠ .pl) : g ∉ [X.k, X.c, X.l] := by
  simp
  refine ⟨?_, ?_, ?_⟩
  · rintro rfl; rw [h.Lk] at hg; cases hg; exact h2 rfl
  · rintro rfl; rw [h.Lc] at hg; cases hg; exact h3 rfl
  · rintro rfl; rw [h.Ll] at hg; cases hg; exact h4 rfl
end
end Go.Proofs.Ythflghdaejbdkaa
